/- How the copy with other names lies while it is made. No function of the program is walked here. -/
import Derived.Test.YthahjnjkiljaaaaShapeMore
import Derived.Test.YthahjnjkiljaaaaShapeCopy
namespace Go.Proofs.Ythahjnjkiljaaaa
open Go.RowKit
set_option linter.unusedVariables false
set_option linter.unusedSimpArgs false
/-- A block of a function's blocks, all with their new names. -/
def BlkCells (w : World) (x : Fnx) (bl : List Value) (k : Nat) : Prop := ∀ (q : Nat) y, x.blocks[q]? = some y → (bl[q * 2]? = some (.string (if q < k then sfx y.name else y.name))) ∧ (q < k → y.name.size ≤ 60) ∧ ∃ v, bl[q * 2 + 1]? = some v ∧ InsxIn w v y.ins
/-- Function j has its new name, and blocks of its own; these lie in a block of N. -/
structure Done (w wr : World) (gF : Nat) (N : Nat → Prop) (j : Nat) (x : Fnx) : Prop where
  nm : wr.cell? ⟨gF, j * 4, none⟩ = some (.string (sfx x.name))
  ar : wr.cell? ⟨gF, j * 4 + 1, none⟩ = some (.int .i64 x.args)
  rg : wr.cell? ⟨gF, j * 4 + 2, none⟩ = some (.int .i64 x.regs)
  bl : ∃ g c bl, wr.cell? ⟨gF, j * 4 + 3, none⟩ = some (.slice (some ⟨g, 0, none⟩) x.blocks.length c) ∧ VRow wr g 40 bl ∧ g ≠ gF ∧ N g ∧ BlkCells w x bl x.blocks.length
  short : x.name.size ≤ 60
theorem Done.keep {w wr w' : World} {gF j : Nat} {N : Nat → Prop} {x : Fnx} (h : Done w wr gF N j x) (hb : Below wr.heap.size wr w') : Done w w' gF N j x := by
  have hl := World.block_lt_of_cell? _ _ h.nm
  obtain ⟨g, c, bl, h1, h2, h3, h4, h5⟩ := h.bl
  exact ⟨(hb.cell (p := ⟨gF, j * 4, none⟩) hl).trans h.nm, (hb.cell (p := ⟨gF, j * 4 + 1, none⟩) hl).trans h.ar, (hb.cell (p := ⟨gF, j * 4 + 2, none⟩) hl).trans h.rg, ⟨g, c, bl, (hb.cell (p := ⟨gF, j * 4 + 3, none⟩) hl).trans h1, h2.below hb, h3, h4, h5⟩, h.short⟩
theorem Done.imp {w wr : World} {gF j : Nat} {N N' : Nat → Prop} {x : Fnx} (h : Done w wr gF N j x) (hi : ∀ g, g < wr.heap.size → N g → N' g) : Done w wr gF N' j x := by
  obtain ⟨g, c, bl, h1, h2, h3, h4, h5⟩ := h.bl
  exact ⟨h.nm, h.ar, h.rg, ⟨g, c, bl, h1, h2, h3, hi g h2.lt h4, h5⟩, h.short⟩
/-- A store into the functions' block, at another function's cells. -/
theorem Done.far {w wr : World} {gF j o : Nat} {N : Nat → Prop} {x : Fnx} (h : Done w wr gF N j x) (ho : o < j * 4 ∨ j * 4 + 4 ≤ o) (u : Value) : Done w (wr.setCell ⟨gF, o, none⟩ u) gF N j x := by
  obtain ⟨g, c, bl, h1, h2, h3, h4, h5⟩ := h.bl
  have hne : ∀ t, t < 4 → (⟨gF, o, none⟩ : Addr) ≠ ⟨gF, j * 4 + t, none⟩ := fun t ht e => by
    have := congrArg Addr.off e
    simp only at this; omega
  exact ⟨(World.cell?_setCell_other _ _ _ _ (hne 0 (by omega))).trans h.nm, (World.cell?_setCell_other _ _ _ _ (hne 1 (by omega))).trans h.ar, (World.cell?_setCell_other _ _ _ _ (hne 2 (by omega))).trans h.rg, ⟨g, c, bl, (World.cell?_setCell_other _ _ _ _ (hne 3 (by omega))).trans h1, h2.other h3 _, h3, h4, h5⟩, h.short⟩
/-- A store into another block. -/
theorem Done.other {w wr : World} {gF j : Nat} {N : Nat → Prop} {x : Fnx} (h : Done w wr gF N j x) {p : Addr} (hp : p.block ≠ gF) (hN : ∀ g, N g → g ≠ p.block) (u : Value) : Done w (wr.setCell p u) gF N j x := by
  obtain ⟨g, c, bl, h1, h2, h3, h4, h5⟩ := h.bl
  have hne : ∀ t, p ≠ (⟨gF, t, none⟩ : Addr) := fun t e => hp (congrArg Addr.block e)
  exact ⟨(World.cell?_setCell_other _ _ _ _ (hne _)).trans h.nm, (World.cell?_setCell_other _ _ _ _ (hne _)).trans h.ar, (World.cell?_setCell_other _ _ _ _ (hne _)).trans h.rg, ⟨g, c, bl, (World.cell?_setCell_other _ _ _ _ (hne _)).trans h1, h2.other (hN g h4) _, h3, h4, h5⟩, h.short⟩
/-- Function j is as it was. -/
def Same4 (w wr : World) (fb fo gF j : Nat) : Prop := ∀ t, t < 4 → wr.cell? ⟨gF, j * 4 + t, none⟩ = w.cell? ⟨fb, fo + j * 4 + t, none⟩
theorem Same4.keep {w wr w' : World} {fb fo gF j : Nat} (h : Same4 w wr fb fo gF j) (hg : gF < wr.heap.size) (hb : Below wr.heap.size wr w') : Same4 w w' fb fo gF j := fun t ht => (hb.cell (p := ⟨gF, j * 4 + t, none⟩) hg).trans (h t ht)
theorem Same4.far {w wr : World} {fb fo gF j o : Nat} (h : Same4 w wr fb fo gF j) (ho : o < j * 4 ∨ j * 4 + 4 ≤ o) (u : Value) : Same4 w (wr.setCell ⟨gF, o, none⟩ u) fb fo gF j := fun t ht =>
  (World.cell?_setCell_other _ _ _ _ (fun e => by have := congrArg Addr.off e; simp only at this; omega)).trans (h t ht)
theorem Same4.other {w wr : World} {fb fo gF j : Nat} (h : Same4 w wr fb fo gF j) {p : Addr} (hp : p.block ≠ gF) (u : Value) : Same4 w (wr.setCell p u) fb fo gF j := fun t ht =>
  (World.cell?_setCell_other _ _ _ _ (fun e => hp (congrArg Addr.block e))).trans (h t ht)
/-- The copy, the first i functions done. -/
structure Named (w wr : World) (fs : List Fnx) (fb fo gF : Nat) (N : Nat → Prop) (i : Nat) : Prop where
  row : ∃ fl, VRow wr gF 37 fl ∧ fl.length = fs.length * 4
  done : ∀ j x, j < i → fs[j]? = some x → Done w wr gF N j x ∧ ∀ b ∈ x.blocks, b.name.size ≤ 60
  same : ∀ j, i ≤ j → j < fs.length → Same4 w wr fb fo gF j
theorem Named.keep {w wr w' : World} {fs : List Fnx} {fb fo gF i : Nat} {N : Nat → Prop} (h : Named w wr fs fb fo gF N i) (hb : Below wr.heap.size wr w') : Named w w' fs fb fo gF N i := by
  obtain ⟨fl, h1, h2⟩ := h.row
  exact ⟨⟨fl, h1.below hb, h2⟩, fun j x hj hx => ⟨(h.done j x hj hx).1.keep hb, (h.done j x hj hx).2⟩, fun j hj hl => (h.same j hj hl).keep h1.lt hb⟩
theorem Named.imp {w wr : World} {fs : List Fnx} {fb fo gF i : Nat} {N N' : Nat → Prop} (h : Named w wr fs fb fo gF N i) (hi : ∀ g, g < wr.heap.size → N g → N' g) : Named w wr fs fb fo gF N' i :=
  ⟨h.row, fun j x hj hx => ⟨(h.done j x hj hx).1.imp hi, (h.done j x hj hx).2⟩, h.same⟩
/-- In the middle of function i: its name is new, its blocks are copied into block gB, the first k of them with new names. -/
structure Mid (w wr : World) (fs : List Fnx) (fb fo gF i : Nat) (x : Fnx) (gB c k : Nat) : Prop where
  row : ∃ fl, VRow wr gF 37 fl ∧ fl.length = fs.length * 4
  done : ∀ j y, j < i → fs[j]? = some y → Done w wr gF (fun g => g ≠ gB) j y ∧ ∀ b ∈ y.blocks, b.name.size ≤ 60
  same : ∀ j, i < j → j < fs.length → Same4 w wr fb fo gF j
  nm : wr.cell? ⟨gF, i * 4, none⟩ = some (.string (sfx x.name))
  ar : wr.cell? ⟨gF, i * 4 + 1, none⟩ = some (.int .i64 x.args)
  rg : wr.cell? ⟨gF, i * 4 + 2, none⟩ = some (.int .i64 x.regs)
  bv : wr.cell? ⟨gF, i * 4 + 3, none⟩ = some (.slice (some ⟨gB, 0, none⟩) x.blocks.length c)
  bl : ∃ bl, VRow wr gB 40 bl ∧ bl.length = x.blocks.length * 2 ∧ BlkCells w x bl k
  ne : gB ≠ gF
  short : x.name.size ≤ 60
theorem Mid.keep {w wr w' : World} {fs : List Fnx} {fb fo gF i gB c k : Nat} {x : Fnx} (h : Mid w wr fs fb fo gF i x gB c k) (hb : Below wr.heap.size wr w') : Mid w w' fs fb fo gF i x gB c k := by
  obtain ⟨fl, h1, h2⟩ := h.row
  obtain ⟨bl, b1, b2, b3⟩ := h.bl
  have hl := h1.lt
  exact ⟨⟨fl, h1.below hb, h2⟩, fun j y hj hy => ⟨(h.done j y hj hy).1.keep hb, (h.done j y hj hy).2⟩, fun j hj hl' => (h.same j hj hl').keep hl hb, (hb.cell (p := ⟨gF, i * 4, none⟩) hl).trans h.nm, (hb.cell (p := ⟨gF, i * 4 + 1, none⟩) hl).trans h.ar, (hb.cell (p := ⟨gF, i * 4 + 2, none⟩) hl).trans h.rg, (hb.cell (p := ⟨gF, i * 4 + 3, none⟩) hl).trans h.bv, ⟨bl, b1.below hb, b2, b3⟩, h.ne, h.short⟩
/-- One block's name. -/
theorem Mid.step {w wr : World} {fs : List Fnx} {fb fo gF i gB c k : Nat} {x : Fnx} (h : Mid w wr fs fb fo gF i x gB c k) {y : Blk} (hy : x.blocks[k]? = some y) (hs : y.name.size ≤ 60) : Mid w (wr.setCell ⟨gB, k * 2, none⟩ (.string (sfx y.name))) fs fb fo gF i x gB c (k + 1) := by
  obtain ⟨fl, h1, h2⟩ := h.row
  obtain ⟨bl, b1, b2, b3⟩ := h.bl
  have hk : k < x.blocks.length := (List.getElem?_eq_some_iff.1 hy).1
  have hne : ∀ t, (⟨gB, k * 2, none⟩ : Addr) ≠ ⟨gF, t, none⟩ := fun t e => h.ne (congrArg Addr.block e)
  refine ⟨⟨fl, h1.other (fun e => h.ne e.symm) _, h2⟩, fun j z hj hz => ⟨(h.done j z hj hz).1.other h.ne (fun g hg => hg) _, (h.done j z hj hz).2⟩, fun j hj hl => (h.same j hj hl).other h.ne _, (World.cell?_setCell_other _ _ _ _ (hne _)).trans h.nm, (World.cell?_setCell_other _ _ _ _ (hne _)).trans h.ar, (World.cell?_setCell_other _ _ _ _ (hne _)).trans h.rg, (World.cell?_setCell_other _ _ _ _ (hne _)).trans h.bv, ⟨bl.set (k * 2) (.string (sfx y.name)), b1.set (by omega) _, by simpa using b2, fun q z hz => ?_⟩, h.ne, h.short⟩
  obtain ⟨e1, e2, v, e3, e4⟩ := b3 q z hz
  by_cases e : k = q
  · subst e
    rw [hy] at hz
    cases hz
    refine ⟨by rw [List.getElem?_set_self (by omega), if_pos (by omega)], fun _ => hs, v, ?_, e4⟩
    rw [List.getElem?_set_ne (by omega)]; exact e3
  · refine ⟨?_, fun hq => e2 (by omega), v, ?_, e4⟩
    · rw [List.getElem?_set_ne (by omega), e1]
      by_cases hq : q < k
      · rw [if_pos hq, if_pos (by omega)]
      · rw [if_neg hq, if_neg (by omega)]
    · rw [List.getElem?_set_ne (by omega)]; exact e3
theorem Mid.name {w wr : World} {fs : List Fnx} {fb fo gF i gB c k : Nat} {x : Fnx} (h : Mid w wr fs fb fo gF i x gB c k) {y : Blk} (hy : x.blocks[k]? = some y) : wr.cell? ⟨gB, k * 2, none⟩ = some (.string y.name) := by
  obtain ⟨bl, b1, b2, b3⟩ := h.bl
  have := (b3 k y hy).1
  rw [if_neg (by omega)] at this
  exact b1.cell this
theorem Mid.free {w wr : World} {fs : List Fnx} {fb fo gF i gB c k : Nat} {x : Fnx} (h : Mid w wr fs fb fo gF i x gB c k) (o : Nat) : wr.frozen? ⟨gB, o, none⟩ = false := by
  obtain ⟨bl, b1, _⟩ := h.bl
  exact b1.frozen o
theorem Mid.fin {w wr : World} {fs : List Fnx} {fb fo gF i gB c : Nat} {x : Fnx} (h : Mid w wr fs fb fo gF i x gB c x.blocks.length) (hx : fs[i]? = some x) : Named w wr fs fb fo gF (fun _ => True) (i + 1) := by
  obtain ⟨bl, b1, b2, b3⟩ := h.bl
  refine ⟨h.row, fun j y hj hy => ?_, fun j hj hl => h.same j (by omega) hl⟩
  by_cases e : j = i
  · subst e
    rw [hx] at hy
    cases hy
    refine ⟨⟨h.nm, h.ar, h.rg, ⟨gB, c, bl, h.bv, b1, h.ne, trivial, b3⟩, h.short⟩, fun b hb => ?_⟩
    obtain ⟨q, hq⟩ := List.getElem?_of_mem hb
    exact (b3 q b hq).2.1 (List.getElem?_eq_some_iff.1 hq).1
  · obtain ⟨h1, h2⟩ := h.done j y (by omega) hy
    exact ⟨h1.imp fun _ _ _ => trivial, h2⟩
/-- Its name, then its blocks: the middle begins. -/
theorem Named.mid {w wr : World} {fs : List Fnx} {fb fo gF i gB c : Nat} {x : Fnx} {bl : List Value} (h : Named w wr fs fb fo gF (fun _ => True) i) (hx : fs[i]? = some x) (hF : FnAt w fb (fo + i * 4) x) (hs : x.name.size ≤ 60) {W : World} (hb : Below wr.heap.size (wr.setCell ⟨gF, i * 4, none⟩ (.string (sfx x.name))) W) (hg : wr.heap.size ≤ gB) (hv : VRow W gB 40 bl) (hl : bl.length = x.blocks.length * 2) (hc : BlkCells w x bl 0) :
    Mid w (W.setCell ⟨gF, i * 4 + 3, none⟩ (.slice (some ⟨gB, 0, none⟩) x.blocks.length c)) fs fb fo gF i x gB c 0 := by
  obtain ⟨fl, h1, h2⟩ := h.row
  have hi : i < fs.length := (List.getElem?_eq_some_iff.1 hx).1
  have hgl := h1.lt
  have hne : gB ≠ gF := by omega
  have hv1 := (h1.set (k := i * 4) (by omega) (.string (sfx x.name))).keep hb (g := gF) hgl
  have hs4 : ∀ t, t < 4 → wr.cell? ⟨gF, i * 4 + t, none⟩ = w.cell? ⟨fb, fo + i * 4 + t, none⟩ := h.same i (Nat.le_refl _) hi
  have hsz : (wr.setCell ⟨gF, i * 4, none⟩ (.string (sfx x.name))).heap.size = wr.heap.size := by simp [World.setCell]
  have keepc : ∀ o : Nat, W.cell? ⟨gF, o, none⟩ = (wr.setCell ⟨gF, i * 4, none⟩ (.string (sfx x.name))).cell? ⟨gF, o, none⟩ := fun o => hb.cell (p := ⟨gF, o, none⟩) hgl
  have hne2 : ∀ o o' : Nat, o ≠ o' → (⟨gF, o, none⟩ : Addr) ≠ ⟨gF, o', none⟩ := fun o o' ho e => ho (congrArg Addr.off e)
  refine ⟨⟨_, hv1.set (k := i * 4 + 3) (by simp; omega) _, by simpa using h2⟩, fun j y hj hy => ?_, fun j hj hl => ?_, ?_, ?_, ?_, ?_, ⟨bl, hv.other hne _, hl, hc⟩, hne, hs⟩
  · obtain ⟨d1, d2⟩ := h.done j y hj hy
    refine ⟨?_, d2⟩
    have a1 := d1.imp (N' := fun g => g ≠ gB) (fun g hlt _ => by omega)
    have a2 := a1.far (o := i * 4) (.inr (by omega)) (.string (sfx x.name))
    rw [← hsz] at hb
    exact (a2.keep hb).far (.inr (by omega)) _
  · have a1 := (h.same j (by omega) hl).far (o := i * 4) (.inl (by omega)) (.string (sfx x.name))
    rw [← hsz] at hb
    exact (a1.keep (by rw [hsz]; exact hgl) hb).far (.inl (by omega)) _
  · rw [World.cell?_setCell_other _ _ _ _ (hne2 _ _ (by omega)), keepc]
    exact World.cell?_setCell_same _ _ _ ((hs4 0 (by omega)).trans hF.c0)
  · rw [World.cell?_setCell_other _ _ _ _ (hne2 _ _ (by omega)), keepc, World.cell?_setCell_other _ _ _ _ (hne2 _ _ (by omega))]
    exact (hs4 1 (by omega)).trans hF.c1
  · rw [World.cell?_setCell_other _ _ _ _ (hne2 _ _ (by omega)), keepc, World.cell?_setCell_other _ _ _ _ (hne2 _ _ (by omega))]
    exact (hs4 2 (by omega)).trans hF.c2
  · obtain ⟨bv, h3, _⟩ := hF.c3
    refine World.cell?_setCell_same _ _ _ (u := bv) ?_
    rw [keepc, World.cell?_setCell_other _ _ _ _ (hne2 _ _ (by omega))]
    exact (hs4 3 (by omega)).trans h3
/-- All done: the copy is read as the functions with other names. -/
theorem Named.fns {w wr : World} {fs : List Fnx} {fb fo gF cF : Nat} {N : Nat → Prop} (h : Named w wr fs fb fo gF N fs.length) (hfl : fs.length * 56 ≤ 140737488352000) (hb : Below w.heap.size w wr) (hF : ∀ (k : Nat) x, fs[k]? = some x → FnAt w fb (fo + k * 4) x) : FnsIn wr (.slice (some ⟨gF, 0, none⟩) fs.length cF) (fs.map renF) := by
  refine ⟨by simpa using hfl, some ⟨gF, 0, none⟩, cF, gF, 0, by simp, ⟨fun _ => rfl, fun h => by cases h⟩, fun k y hy => ?_⟩
  rw [List.getElem?_map] at hy
  cases hx : fs[k]? with
  | none => rw [hx] at hy; cases hy
  | some x =>
    rw [hx] at hy
    obtain rfl : renF x = y := by simpa using hy
    have hk : k < fs.length := (List.getElem?_eq_some_iff.1 hx).1
    obtain ⟨hd, hs⟩ := h.done k x hk hx
    have hf := hF k x hx
    obtain ⟨g, c, bl, h1, h2, h3, h4, h5⟩ := hd.bl
    obtain ⟨bv, _, hbv⟩ := hf.c3
    have hbl := hbv.1
    rw [Nat.zero_add]
    have hsz : ∀ s : ByteArray, s.size ≤ 60 → (sfx s).size ≤ 140737488352000 := fun s hs => by
      unfold sfx
      rw [ByteArray.size_append]
      have : (⟨#[95, 120]⟩ : ByteArray).size = 2 := rfl
      omega
    refine ⟨hd.nm, hd.ar, hd.rg, ⟨_, h1, ?_⟩, hsz _ hd.short, hf.ba, hf.br⟩
    refine ⟨by simpa [renF] using hbl, some ⟨g, 0, none⟩, c, g, 0, by simp [renF], ⟨fun _ => rfl, fun h => by cases h⟩, fun q b hb' => ?_⟩
    have hb'' : (x.blocks.map renB)[q]? = some b := hb'
    rw [List.getElem?_map] at hb''
    cases hy : x.blocks[q]? with
    | none => rw [hy] at hb''; cases hb''
    | some z =>
      rw [hy] at hb''
      obtain rfl : renB z = b := by simpa using hb''
      have hq : q < x.blocks.length := (List.getElem?_eq_some_iff.1 hy).1
      obtain ⟨e1, _, v, e2, e3⟩ := h5 q z hy
      rw [if_pos hq] at e1
      rw [Nat.zero_add]
      exact ⟨h2.cell e1, ⟨v, h2.cell e2, InsxIn.keep e3 hb⟩, hsz _ (hs z (List.mem_of_getElem? hy))⟩
end Go.Proofs.Ythahjnjkiljaaaa
