/- The document's list (muntinref07): Words. -/
import Derived.Test.YtgicenbjdadakaaDoorAsmRParts
namespace Go.Proofs.YtgicenbjdadakaaDoor
open Go.RowKit Go.Maps
set_option linter.unusedVariables false
set_option linter.unusedSimpArgs false
/-- An instruction that goes to a name. -/
def farX (x : Ix) : Prop := (∃ c, 0 ≤ c ∧ c ≤ 6 ∧ x = ⟨17, c, 0, 0, true, 0⟩) ∨ x = ⟨18, 0, 0, 0, true, 0⟩
def FarL (L : List It) : Prop := ∀ x nm, It.far x nm ∈ L → farX x
theorem farX.may {x : Ix} (h : farX x) (d : Int) : mayP { x with imm := d } ↔ -1048576 ≤ d ∧ d < 1048576 := by
  rcases h with ⟨c, h0, h1, rfl⟩ | rfl
  · have hk : kindS 17 = 4 := by decide
    unfold mayP okS
    simp only [hk]
    constructor
    · intro h; have := h.2.2.2; simp at this; omega
    · intro h; refine ⟨by omega, by omega, by omega, ?_⟩; simp; omega
  · have hk : kindS 18 = 5 := by decide
    unfold mayP okS
    simp only [hk]
    constructor
    · intro h; have := h.2.2.2; simp at this; omega
    · intro h; refine ⟨by omega, by omega, by omega, ?_⟩; simp; omega
theorem farX.out {x : Ix} (h : farX x) {d : Int} (hd : ¬ (-1048576 ≤ d ∧ d < 1048576)) : farE x d = 50 := by
  unfold farE; rw [if_neg (fun h2 => hd ((h.may d).1 h2.1))]
theorem farX.in' {x : Ix} (h : farX x) {d : Int} (hd : -1048576 ≤ d ∧ d < 1048576) : farE x d = 0 ∧ farW x d = encS { x with imm := d } := by
  have hm := (h.may d).2 hd
  unfold farE farW
  rw [if_pos ⟨hm, by omega, by omega⟩, if_pos ⟨hm, by omega, by omega⟩]
  exact ⟨rfl, rfl⟩
theorem farX.bd {x : Ix} (h : farX x) {d : Int} (hd : -1048576 ≤ d ∧ d < 1048576) : ({ x with imm := d } : Ix).bd := by
  rcases h with ⟨c, h0, h1, rfl⟩ | rfl <;> (unfold Ix.bd; simp only; omega)
/-- An instruction in a box, that may be written. -/
structure Box6 (w : World) (b : Nat) (x : Ix) : Prop where
  c0 : w.cell? ⟨b, 0, none⟩ = some (.int .u8 x.op)
  c1 : w.cell? ⟨b, 1, none⟩ = some (.int .u8 x.rd)
  c2 : w.cell? ⟨b, 2, none⟩ = some (.int .u8 x.rs1)
  c3 : w.cell? ⟨b, 3, none⟩ = some (.int .u8 x.rs2)
  c4 : w.cell? ⟨b, 4, none⟩ = some (.bool x.is)
  c5 : w.cell? ⟨b, 5, none⟩ = some (.int .i32 x.imm)
  f5 : w.frozen? ⟨b, 5, none⟩ = false
theorem box6 (w : World) (x : Ix) : Box6 (w.alloc (.cells #[.int .u8 x.op, .int .u8 x.rd, .int .u8 x.rs1, .int .u8 x.rs2, .bool x.is, .int .i32 x.imm] 55)) w.heap.size x := by
  have h := heap_alloc_new w (.cells #[.int .u8 x.op, .int .u8 x.rd, .int .u8 x.rs1, .int .u8 x.rs2, .bool x.is, .int .i32 x.imm] 55)
  exact ⟨by simp only [World.cell?, h]; rfl, by simp only [World.cell?, h]; rfl, by simp only [World.cell?, h]; rfl, by simp only [World.cell?, h]; rfl, by simp only [World.cell?, h]; rfl, by simp only [World.cell?, h]; rfl, by simp only [World.frozen?, h]; rfl⟩
theorem Box6.keep {w w' : World} {B b : Nat} {x : Ix} (h : Box6 w b x) (hb : Below B w w') (hl : b < B) : Box6 w' b x :=
  ⟨(hb.cell (p := ⟨b, 0, none⟩) hl).trans h.c0, (hb.cell (p := ⟨b, 1, none⟩) hl).trans h.c1, (hb.cell (p := ⟨b, 2, none⟩) hl).trans h.c2, (hb.cell (p := ⟨b, 3, none⟩) hl).trans h.c3, (hb.cell (p := ⟨b, 4, none⟩) hl).trans h.c4, (hb.cell (p := ⟨b, 5, none⟩) hl).trans h.c5, (hb.frozen (p := ⟨b, 5, none⟩) hl).trans h.f5⟩
theorem ownsRow_far {W1 w5 w4 : World} {B b : Nat} {e : TypeId} {size n : Nat} {v u : Value} {xs : List Value} {i : Nat} (h : W1.ownsRow B e size v n xs) (h5 : Below W1.heap.size W1 w5) (h4 : Below (w5.setCell ⟨b, i, none⟩ u).heap.size (w5.setCell ⟨b, i, none⟩ u) w4) (hne : ∀ k, v.ownBlock = some k → k ≠ b) : w4.ownsRow B e size v n xs := by
  refine ⟨h.1, ?_⟩
  rcases h.2 with h0 | ⟨g, cap, cur, e1, e2, e3, e4⟩
  · exact .inl h0
  · have hg := lt_of_block e3
    have hs : (w5.setCell ⟨b, i, none⟩ u).heap.size = w5.heap.size := by simp [World.setCell]
    refine .inr ⟨g, cap, cur, e1, e2, ?_, e4⟩
    rw [h4.block g (by rw [hs]; exact Nat.lt_of_lt_of_le hg h5.size), Below.heap_setCell _ _ _ _ (hne g (by rw [e1]; rfl)), h5.block g hg]
    exact e3
/-- Items that were put may be. -/
def PutL (L : List It) : Prop := ∀ x, It.put x ∈ L → x.bd
end Go.Proofs.YtgicenbjdadakaaDoor
