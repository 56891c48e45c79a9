/- How an argument of type []Act (muntinlaw05) is read. -/
import Derived.Test.YtilegepenibeoaaMemAct
import Derived.Deep.Slices
namespace Go.Proofs.Ytilegepenibeoaa
open Go.RowKit
set_option linter.unusedVariables false
set_option linter.unusedSimpArgs false
/-- The five cells of an Act that lies at a place. -/
structure ActAt (w : World) (b o : Nat) (what addr many wv : Int) (v : Value) (l : List Int) : Prop where
  c0 : w.cell? ⟨b, o, none⟩ = some (.int .u8 what)
  c1 : w.cell? ⟨b, o + 1, none⟩ = some (.int .u32 addr)
  c2 : w.cell? ⟨b, o + 2, none⟩ = some (.int .i64 many)
  c3 : w.cell? ⟨b, o + 3, none⟩ = some (.int .u32 wv)
  c4 : w.cell? ⟨b, o + 4, none⟩ = some v
  b0 : 0 ≤ what ∧ what < 256
  b1 : 0 ≤ addr ∧ addr < 4294967296
  b2 : -9223372036854775808 ≤ many ∧ many ≤ 9223372036854775807
  b3 : 0 ≤ wv ∧ wv < 4294967296
  len : l.length ≤ maxLen
  row : U32s (fun _ => False) w v l
theorem U32s.keepf {a b : World} {v : Value} {l : List Int} (h : U32s (fun _ => False) a v l) (hb : Below a.heap.size a b) : U32s (fun _ => False) b v l := by
  obtain ⟨h1, p, c, rfl, h2⟩ := h
  refine ⟨h1, p, c, rfl, fun h0 => ?_⟩
  obtain ⟨k, o, rfl, _, h3, h4⟩ := h2 h0
  exact ⟨k, o, rfl, id, Nat.lt_of_lt_of_le h3 hb.size, fun j hj => (hb.cell (World.block_lt_of_cell? _ _ (h4 j hj))).trans (h4 j hj)⟩
theorem U32s.far {S : Nat → Prop} {a b : World} {v : Value} {l : List Int} (h : U32s (fun _ => False) a v l) (hb : Below a.heap.size a b) (hS : ∀ k, S k → a.heap.size ≤ k) : U32s S b v l := by
  obtain ⟨h1, p, c, rfl, h2⟩ := h
  refine ⟨h1, p, c, rfl, fun h0 => ?_⟩
  obtain ⟨k, o, rfl, _, h3, h4⟩ := h2 h0
  exact ⟨k, o, rfl, fun hk => by have := hS _ hk; omega, Nat.lt_of_lt_of_le h3 hb.size, fun j hj => (hb.cell (World.block_lt_of_cell? _ _ (h4 j hj))).trans (h4 j hj)⟩
theorem ActAt.keep {a b : World} {k o : Nat} {what addr many wv : Int} {v : Value} {l : List Int} (h : ActAt a k o what addr many wv v l) (hb : Below a.heap.size a b) : ActAt b k o what addr many wv v l := by
  have hl := World.block_lt_of_cell? _ _ h.c0
  exact ⟨(hb.cell hl).trans h.c0, (hb.cell (p := ⟨k, o + 1, none⟩) hl).trans h.c1, (hb.cell (p := ⟨k, o + 2, none⟩) hl).trans h.c2, (hb.cell (p := ⟨k, o + 3, none⟩) hl).trans h.c3, (hb.cell (p := ⟨k, o + 4, none⟩) hl).trans h.c4, h.b0, h.b1, h.b2, h.b3, h.len, h.row.keepf hb⟩
/-- A slice of acts that came in. -/
def ActsIn (w : World) (p : Option Addr) (n : Nat) : Prop :=
  0 < n → ∃ b o, p = some ⟨b, o, none⟩ ∧ ∀ i, i < n → ∃ what addr many wv v l, ActAt w b (o + i * 5) what addr many wv v l
theorem addr_add (b o n : Nat) : (⟨b, o, none⟩ : Addr).add n = ⟨b, o + n, none⟩ := by unfold Addr.add; split <;> simp [*]
/-- A slice of acts, as it comes in. -/
theorem trod_acts {H : Type} {enc : TypeId × Value → H} {w : World} {base : Nat} {spare : Nat → Bool} {held : Bool} {fuel : Nat} {x : DataW H × List MemPlace} {cs : List Value} (h : DataW.trod enc Try.prog w base spare held fuel 22 cs = some x) :
    ∃ p n c, cs = [.slice p n c] ∧ n ≤ maxLen ∧ n ≤ c ∧ ActsIn w p n := by
  rcases Go.Deep.open_slice Try.underlying22 h with ⟨rfl, _⟩ | ⟨a, len, cap, m, q, D, Pl, rfl, _, hl, hm, hmm, _, hx⟩
  · exact ⟨none, 0, 0, rfl, by unfold maxLen; simp, Nat.le_refl _, fun h0 => by omega⟩
  · refine ⟨some a, len, cap, rfl, by omega, hl, fun h0 => ?_⟩
    have hlm : len ≤ m := by rw [hmm]; split <;> omega
    have each : ∀ i, i < len → ∃ what addr many wv v l, ActIs w [.int .u8 what, .int .u32 addr, .int .i64 many, .int .u32 wv, v] what addr many wv v l ∧ (∀ j, j < 5 → w.cell? ((a.add (i * 5)).add j) = [Value.int .u8 what, .int .u32 addr, .int .i64 many, .int .u32 wv, v][j]?) := by
      intro i hi
      obtain ⟨cs', h1, h2⟩ := hx i (by omega)
      rw [cells_act] at h1
      obtain ⟨what, addr, many, wv, v, l, hact⟩ := trod_act h2
      obtain rfl := hact.cells
      refine ⟨what, addr, many, wv, v, l, hact, ?_⟩
      unfold World.cells? at h1
      split at h1
      · rw [show List.range 5 = [0, 1, 2, 3, 4] from rfl] at h1
        simp only [List.mapM_cons, List.mapM_nil, Option.bind_eq_bind, Option.bind_eq_some_iff, Option.pure_def, Option.some.injEq] at h1
        obtain ⟨y0, e0, l0, ⟨y1, e1, l1, ⟨y2, e2, l2, ⟨y3, e3, l3, ⟨y4, e4, l4, rfl, rfl⟩, rfl⟩, rfl⟩, rfl⟩, h5⟩ := h1
        simp only [List.cons.injEq, and_true] at h5
        obtain ⟨rfl, rfl, rfl, rfl, rfl⟩ := h5
        intro j hj
        match j, hj with
        | 0, _ => exact e0
        | 1, _ => exact e1
        | 2, _ => exact e2
        | 3, _ => exact e3
        | 4, _ => exact e4
      · cases h1
    obtain ⟨b, o, sp⟩ := a
    have hsp2 : sp = none := by
      obtain ⟨what, addr, many, wv, v, l, _, h1⟩ := each 0 h0
      have := World.cell?_spot (h1 0 (by omega))
      simpa [Addr.add] using this
    subst hsp2
    refine ⟨b, o, rfl, fun i hi => ?_⟩
    obtain ⟨what, addr, many, wv, v, l, hact, h1⟩ := each i hi
    have e : ∀ j, ((⟨b, o, none⟩ : Addr).add (i * 5)).add j = ⟨b, o + i * 5 + j, none⟩ := by
      intro j; rw [addr_add, addr_add]
    have q0 := h1 0 (by omega)
    have q1 := h1 1 (by omega)
    have q2 := h1 2 (by omega)
    have q3 := h1 3 (by omega)
    have q4 := h1 4 (by omega)
    rw [e] at q0 q1 q2 q3 q4
    exact ⟨what, addr, many, wv, v, l, ⟨q0, q1, q2, q3, q4, hact.b0, hact.b1, hact.b2, hact.b3, hact.len, by obtain ⟨r1, p', c', rfl, r2⟩ := hact.row; exact ⟨r1, p', c', rfl, fun h0 => by obtain ⟨b', o', r3, _, r4, r5⟩ := r2 h0; exact ⟨b', o', r3, id, r4, r5⟩⟩⟩⟩
end Go.Proofs.Ytilegepenibeoaa
