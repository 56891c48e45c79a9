/- A row of things that is copied, and then each thing's own row is copied. No function of the program is walked here. -/
import Derived.Test.YtdefooailcbnlaaG22
import Derived.Test.YtdefooailcbnlaaG27
namespace Go.Proofs.Ytdefooailcbnlaa
open Go.RowKit
set_option linter.unusedVariables false
set_option linter.unusedSimpArgs false
/-- It holds in each world that is the same from block lo on, as far as this one goes. -/
def Stab (lo : Nat) (w : World) (F : World → Prop) : Prop := ∀ W : World, (∀ k, lo ≤ k → k < w.heap.size → W.heap[k]? = w.heap[k]?) → F W
theorem Stab.here {lo : Nat} {w : World} {F : World → Prop} (h : Stab lo w F) : F w := h w fun _ _ _ => rfl
theorem Stab.low {lo lo' : Nat} {w : World} {F : World → Prop} (h : Stab lo w F) (hl : lo' ≤ lo) : Stab lo' w F := fun W hW => h W fun k hk => hW k (Nat.le_trans hl hk)
theorem Stab.keep {lo : Nat} {w w' : World} {F : World → Prop} (h : Stab lo w F) (hs : w.heap.size ≤ w'.heap.size) (hb : ∀ k, lo ≤ k → k < w.heap.size → w'.heap[k]? = w.heap[k]?) : Stab lo w' F :=
  fun W hW => h W fun k hk hk2 => (hW k hk (Nat.lt_of_lt_of_le hk2 hs)).trans (hb k hk hk2)
/-- How a thing lies: cells of its own, and one cell that holds a slice. -/
structure Desc (α : Type) where
  At : World → Nat → Nat → α → Prop
  s : Nat
  col : Nat
  fx : α → Nat → Value
  Sub : World → Value → α → Prop
  Pure : α → Prop
  col_lt : col < s
  iff : ∀ w b o x, At w b o x ↔ (∀ j, j < s → j ≠ col → w.cell? ⟨b, o + j, none⟩ = some (fx x j)) ∧ (∃ v, w.cell? ⟨b, o + col, none⟩ = some v ∧ Sub w v x) ∧ Pure x
/-- Block g holds a copy of the things l, of which the first j have a copied row. -/
structure CRow {α : Type} (D : Desc α) (T : TypeId) (w0 w : World) (g : Nat) (l : List α) (j : Nat) : Prop where
  row : ∃ vs, VRow w g T vs ∧ vs.length = l.length * D.s
  at' : ∀ (q : Nat) x, l[q]? = some x → (∀ i, i < D.s → i ≠ D.col → w.cell? ⟨g, q * D.s + i, none⟩ = some (D.fx x i)) ∧ D.Pure x ∧ ∃ v, w.cell? ⟨g, q * D.s + D.col, none⟩ = some v ∧ (q < j → Stab (g + 1) w (fun W => D.Sub W v x)) ∧ (j ≤ q → D.Sub w0 v x)
section
variable {α : Type} {D : Desc α} {T : TypeId} {w0 w w' : World} {g : Nat} {l : List α} {j : Nat}
theorem CRow.lt (h : CRow D T w0 w g l j) : g < w.heap.size := by obtain ⟨vs, h1, _⟩ := h.row; exact h1.lt
theorem CRow.free (h : CRow D T w0 w g l j) (i : Nat) : w.frozen? ⟨g, i, none⟩ = false := by obtain ⟨vs, h1, _⟩ := h.row; exact h1.frozen i
theorem CRow.keep (h : CRow D T w0 w g l j) (hs : w.heap.size ≤ w'.heap.size) (hb : ∀ k, g ≤ k → k < w.heap.size → w'.heap[k]? = w.heap[k]?) : CRow D T w0 w' g l j := by
  have hg := hb g (Nat.le_refl _) h.lt
  have hc : ∀ i, w'.cell? ⟨g, i, none⟩ = w.cell? ⟨g, i, none⟩ := fun i => World.cell?_of_block (a := ⟨g, i, none⟩) hg
  obtain ⟨vs, h1, h2⟩ := h.row
  refine ⟨⟨vs, h1.of_block hg, h2⟩, fun q x hx => ?_⟩
  obtain ⟨a, b, v, c, d, e⟩ := h.at' q x hx
  exact ⟨fun i hi hne => (hc _).trans (a i hi hne), b, v, (hc _).trans c, fun hq => (d hq).keep hs (fun k hk hk2 => hb k (by omega) hk2), e⟩
/-- One thing more has a copied row. -/
theorem CRow.step (h : CRow D T w0 w g l j) {x : α} (hx : l[j]? = some x) (v' : Value) (hs : w.heap.size ≤ w'.heap.size) (hg : w'.heap[g]? = (w.setCell ⟨g, j * D.s + D.col, none⟩ v').heap[g]?) (hb : ∀ k, g < k → k < w.heap.size → w'.heap[k]? = w.heap[k]?) (hv : Stab (g + 1) w' (fun W => D.Sub W v' x)) : CRow D T w0 w' g l (j + 1) := by
  obtain ⟨vs, h1, h2⟩ := h.row
  have hj : j < l.length := (List.getElem?_eq_some_iff.1 hx).1
  have hcl := D.col_lt
  have hidx : j * D.s + D.col < vs.length := by
    rw [h2]
    have : (j + 1) * D.s ≤ l.length * D.s := Nat.mul_le_mul_right _ hj
    rw [Nat.succ_mul] at this; omega
  have hcell : ∀ i, w'.cell? ⟨g, i, none⟩ = (w.setCell ⟨g, j * D.s + D.col, none⟩ v').cell? ⟨g, i, none⟩ := fun i => World.cell?_of_block (a := ⟨g, i, none⟩) hg
  have hoth : ∀ i, i ≠ j * D.s + D.col → w'.cell? ⟨g, i, none⟩ = w.cell? ⟨g, i, none⟩ := fun i hi => (hcell i).trans (World.cell?_setCell_other _ _ _ _ (fun e => hi (congrArg Addr.off e).symm))
  refine ⟨⟨_, (h1.set hidx v').of_block hg, by simpa using h2⟩, fun q y hy => ?_⟩
  obtain ⟨a, b, v, c, d, e⟩ := h.at' q y hy
  have hne : ∀ i, i < D.s → (q ≠ j ∨ i ≠ D.col) → q * D.s + i ≠ j * D.s + D.col := fun i hi ho e => by
    have hq : q = j := by
      rcases Nat.lt_trichotomy q j with h | h | h
      · have : (q + 1) * D.s ≤ j * D.s := Nat.mul_le_mul_right _ h
        rw [Nat.succ_mul] at this; omega
      · exact h
      · have : (j + 1) * D.s ≤ q * D.s := Nat.mul_le_mul_right _ h
        rw [Nat.succ_mul] at this; omega
    rcases ho with h | h
    · exact h hq
    · rw [hq] at e; omega
  refine ⟨fun i hi hic => (hoth _ (hne i hi (.inr hic))).trans (a i hi hic), b, ?_⟩
  by_cases hq : q = j
  · subst hq
    rw [hx] at hy
    cases hy
    exact ⟨v', (hcell _).trans (World.cell?_setCell_same _ _ _ c), fun _ => hv, fun hh => by omega⟩
  · exact ⟨v, (hoth _ (hne _ hcl (.inl hq))).trans c, fun hh => (d (by omega)).keep hs (fun k hk hk2 => hb k (by omega) hk2), fun hh => e (by omega)⟩
/-- All have: the copy is read as the things. -/
theorem CRow.fin (h : CRow D T w0 w g l l.length) {bytes : Nat} (hl : l.length * bytes ≤ 140737488352000) (c : Nat) : Stab g w (fun W => RowIn D.At D.s bytes W (.slice (some ⟨g, 0, none⟩) l.length c) l) := by
  intro W hW
  refine ⟨hl, some ⟨g, 0, none⟩, c, g, 0, rfl, ⟨fun _ => rfl, fun e => by cases e⟩, fun k x hx => ?_⟩
  have hg := hW g (Nat.le_refl _) h.lt
  have hc : ∀ i, W.cell? ⟨g, i, none⟩ = w.cell? ⟨g, i, none⟩ := fun i => World.cell?_of_block (a := ⟨g, i, none⟩) hg
  obtain ⟨a, b, v, d, e, _⟩ := h.at' k x hx
  rw [D.iff, Nat.zero_add]
  exact ⟨fun i hi hne => (hc _).trans (a i hi hne), ⟨v, (hc _).trans d, e (List.getElem?_eq_some_iff.1 hx).1 W (fun q hq hq2 => hW q (by omega) hq2)⟩, b⟩
/-- A row just copied. -/
theorem CRow.start (hb : Below w0.heap.size w0 w) {b o : Nat} (h : ∀ (k : Nat) x, l[k]? = some x → D.At w0 b (o + k * D.s) x) (hv : VRow w' g T (rowCells w b o (l.length * D.s))) : CRow D T w0 w' g l 0 := by
  refine ⟨⟨_, hv, rowCells_length _ _ _ _⟩, fun q x hx => ?_⟩
  have hq : q < l.length := (List.getElem?_eq_some_iff.1 hx).1
  obtain ⟨a, ⟨v, c, d⟩, e⟩ := (D.iff _ _ _ _).1 (h q x hx)
  have hcl := D.col_lt
  have hidx : ∀ i, i < D.s → q * D.s + i < l.length * D.s := fun i hi => by
    have : (q + 1) * D.s ≤ l.length * D.s := Nat.mul_le_mul_right _ hq
    rw [Nat.succ_mul] at this; omega
  have hcell : ∀ i u, i < D.s → w0.cell? ⟨b, o + q * D.s + i, none⟩ = some u → w'.cell? ⟨g, q * D.s + i, none⟩ = some u := fun i u hi hu => by
    refine hv.cell ?_
    rw [rowCells_get (hidx i hi), ← Nat.add_assoc, (hb.cell (p := ⟨b, o + q * D.s + i, none⟩) (World.block_lt_of_cell? _ _ hu)).trans hu]
    rfl
  exact ⟨fun i hi hne => hcell i _ hi (a i hi hne), e, v, hcell D.col v hcl c, fun hh => by omega, fun _ => d⟩
end
/-- Instructions, blocks, functions. -/
def fxI (x : Insx) (j : Nat) : Value :=
  match j with
  | 0 => .int .u8 x.op | 1 => .int .i64 x.d | 2 => .int .i64 x.a | 3 => .int .i64 x.b | 4 => .int .u32 x.n | 5 => .int .i64 x.f | 7 => .int .i64 x.l1 | _ => .int .i64 x.l2
def DI : Desc Insx where
  At := InsxAt
  s := 9
  col := 6
  fx := fxI
  Sub := fun W v x => IntsIn W v x.args
  Pure := Insx.bd
  col_lt := by omega
  iff := fun w b o x => by
    constructor
    · intro h
      refine ⟨fun j hj hne => ?_, h.c6, h.bd⟩
      have hc : j = 0 ∨ j = 1 ∨ j = 2 ∨ j = 3 ∨ j = 4 ∨ j = 5 ∨ j = 7 ∨ j = 8 := by omega
      rcases hc with rfl | rfl | rfl | rfl | rfl | rfl | rfl | rfl
      · exact h.c0
      · exact h.c1
      · exact h.c2
      · exact h.c3
      · exact h.c4
      · exact h.c5
      · exact h.c7
      · exact h.c8
    · rintro ⟨h, h6, hb⟩
      exact ⟨h 0 (by omega) (by omega), h 1 (by omega) (by omega), h 2 (by omega) (by omega), h 3 (by omega) (by omega), h 4 (by omega) (by omega), h 5 (by omega) (by omega), h6, h 7 (by omega) (by omega), h 8 (by omega) (by omega), hb⟩
def DB : Desc Blk where
  At := BlkAt
  s := 2
  col := 1
  fx := fun x _ => .string x.name
  Sub := fun W v x => InsxIn W v x.ins
  Pure := fun x => x.name.size ≤ 140737488352000
  col_lt := by omega
  iff := fun w b o x => by
    constructor
    · intro h
      refine ⟨fun j hj hne => ?_, h.c1, h.nm⟩
      obtain rfl : j = 0 := by omega
      exact h.c0
    · rintro ⟨h, h1, hn⟩
      exact ⟨h 0 (by omega) (by omega), h1, hn⟩
def fxF (x : Fnx) (j : Nat) : Value :=
  match j with
  | 0 => .string x.name | 1 => .int .i64 x.args | _ => .int .i64 x.regs
def DF : Desc Fnx where
  At := FnAt
  s := 4
  col := 3
  fx := fxF
  Sub := fun W v x => BlksIn W v x.blocks
  Pure := fun x => x.name.size ≤ 140737488352000 ∧ I64 x.args ∧ I64 x.regs
  col_lt := by omega
  iff := fun w b o x => by
    constructor
    · intro h
      refine ⟨fun j hj hne => ?_, h.c3, h.nm, h.ba, h.br⟩
      have hc : j = 0 ∨ j = 1 ∨ j = 2 := by omega
      rcases hc with rfl | rfl | rfl
      · exact h.c0
      · exact h.c1
      · exact h.c2
    · rintro ⟨h, h3, hn, h4, h5⟩
      exact ⟨h 0 (by omega) (by omega), h 1 (by omega) (by omega), h 2 (by omega) (by omega), h3, hn, h4, h5⟩
theorem own_stab {w : World} {B : Nat} {v : Value} {l : List Int} (h : w.ownsRow B 3 1 v l.length (ints l)) (hl : l.length * 8 ≤ 140737488352000) (hb : ∀ x ∈ l, I64 x) : Stab B w (fun W => IntsIn W v l) := by
  intro W hW
  rcases h.2 with ⟨rfl, h0⟩ | ⟨g, cap, cur, rfl, h2, h3, h4, h5, h6, h7⟩
  · have : l = [] := List.eq_nil_of_length_eq_zero h0
    subst this
    exact ints_nil W
  · have ho : W.ownsRow B 3 1 (.slice (some ⟨g, 0, none⟩) l.length cap) l.length (ints l) := ⟨h.1, .inr ⟨g, cap, cur, rfl, h2, (hW g h2 (lt_of_block h3)).trans h3, h4, h5, h6, h7⟩⟩
    exact IntsIn.of_own ho hl hb
end Go.Proofs.Ytdefooailcbnlaa
