/- How an argument of type api.Inst is read; the table of what operations have. -/
import Derived.Test.YtfbbodaapkfbdaaDoorG03
import Derived.ProofKit
import Derived.OpenShut
namespace Go.Proofs.YtfbbodaapkfbdaaDoor
open Go.RowKit Go.ChangeShapes Go.WideShapes Go.ChangeAt
set_option linter.unusedVariables false
set_option maxRecDepth 100000 in
theorem tab_of {W : World} (h : ∀ i (hi : i < ([128, 7, 7, 7, 7, 7, 7, 7, 7, 7, 7, 7, 7, 7, 7, 25, 6, 25, 24, 7, 7, 7, 7, 7, 7, 7, 1, 6, 1, 6, 9, 10, 0, 8, 1, 2, 2, 8] : List Int).length), W.cell? ⟨0, i, none⟩ = some (.int .u8 (([128, 7, 7, 7, 7, 7, 7, 7, 7, 7, 7, 7, 7, 7, 7, 25, 6, 25, 24, 7, 7, 7, 7, 7, 7, 7, 1, 6, 1, 6, 9, 10, 0, 8, 1, 2, 2, 8] : List Int).getD i 0))) : Tab W := by
  intro i hi
  have hall : ∀ j : Fin 38, ([128, 7, 7, 7, 7, 7, 7, 7, 7, 7, 7, 7, 7, 7, 7, 25, 6, 25, 24, 7, 7, 7, 7, 7, 7, 7, 1, 6, 1, 6, 9, 10, 0, 8, 1, 2, 2, 8] : List Int).getD j.val 0 = hasK (kindS (j.val : Int)) := by decide
  have h1 := h i (by simpa using hi)
  rw [h1]
  exact congrArg (fun n => some (Value.int .u8 n)) (hall ⟨i, hi⟩)
theorem icells_u8 : Tryd.prog.cellsOf 5 = 1 := by kernel_rfl
theorem icells_bool : Tryd.prog.cellsOf 4 = 1 := by kernel_rfl
theorem icells_i32 : Tryd.prog.cellsOf 21 = 1 := by kernel_rfl
theorem icells_inst : Tryd.prog.cellsOf 50 = 6 := by kernel_rfl
theorem list6 {α : Type} {l : List α} (h : l.length = 6) : ∃ a b c d e f, l = [a, b, c, d, e, f] := by
  match l, h with
  | [a, b, c, d, e, f], _ => exact ⟨a, b, c, d, e, f, rfl⟩
set_option maxRecDepth 100000 in
theorem trod_inst {H : Type} {enc : TypeId × Value → H} {w : World} {base : Nat} {spare : Nat → Bool} {held : Bool} {fuel : Nat} {x : DataW H × List MemPlace} {cs : List Value} (h : DataW.trod enc Tryd.prog w base spare held fuel 50 cs = some x) :
    ∃ y : Ix, y.bd ∧ cs = [.int .u8 y.op, .int .u8 y.rd, .int .u8 y.rs1, .int .u8 y.rs2, .bool y.is, .int .i32 y.imm] := by
  obtain ⟨xs, n, _, rfl, hl, hlen, hf⟩ := DataW.trod_struct Tryd.underlying50 h
  rw [icells_inst] at hl
  obtain ⟨c0, c1, c2, c3, c4, c5, rfl⟩ := list6 hl
  obtain ⟨y0, y1, y2, y3, y4, y5, rfl⟩ := list6 hlen
  have h0 := hf 0 _ rfl
  have h1 := hf 1 _ rfl
  have h2 := hf 2 _ rfl
  have h3 := hf 3 _ rfl
  have h4 := hf 4 _ rfl
  have h5 := hf 5 _ rfl
  simp [icells_u8, icells_bool, icells_i32] at h0 h1 h2 h3 h4 h5
  obtain ⟨a0, e0, _, w0⟩ := DataW.trod_int Tryd.underlying5 h0
  obtain ⟨a1, e1, _, w1⟩ := DataW.trod_int Tryd.underlying5 h1
  obtain ⟨a2, e2, _, w2⟩ := DataW.trod_int Tryd.underlying5 h2
  obtain ⟨a3, e3, _, w3⟩ := DataW.trod_int Tryd.underlying5 h3
  obtain ⟨a4, e4, _⟩ := DataW.trod_bool Tryd.underlying4 h4
  obtain ⟨a5, e5, _, w5⟩ := DataW.trod_int Tryd.underlying21 h5
  simp at e0 e1 e2 e3 e4 e5
  have b0 := bounds_u8 w0
  have b1 := bounds_u8 w1
  have b2 := bounds_u8 w2
  have b3 := bounds_u8 w3
  have b5 := bounds_i32 w5
  exact ⟨⟨a0, a1, a2, a3, a4, a5⟩, ⟨by simp only; omega, by simp only; omega, by simp only; omega, by simp only; omega, by simp only; omega⟩, by rw [e0, e1, e2, e3, e4, e5]⟩
set_option maxRecDepth 100000 in
theorem open_inst {H : Type} {enc : TypeId × Value → H} {W : World} {base b : Nat} {spare : Nat → Bool} {held : Bool} {r : Reach} {v : Value} {d : DataW H} {p : List MemPlace} (hv : Value.okWide Tryd.prog W r b 50 v) (h : DataW.Trod enc Tryd.prog W base spare held 50 v d p) :
    ∃ x : Ix, x.bd ∧ v = x.agg := by
  obtain ⟨cs, rfl, hsz⟩ := okWide_struct Tryd.underlying50 hv
  obtain ⟨m, hm⟩ := h
  obtain ⟨y, hb, he⟩ := trod_inst (by simpa [Value.cells] using hm)
  refine ⟨y, hb, ?_⟩
  congr 1
  apply Array.toList_inj.1
  rw [he]
end Go.Proofs.YtfbbodaapkfbdaaDoor
