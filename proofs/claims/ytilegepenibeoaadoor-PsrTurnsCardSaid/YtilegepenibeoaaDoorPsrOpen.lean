/- How an argument of type api.Psr is read; the table of math/bits. -/
import Derived.Test.YtilegepenibeoaaDoorPsrHead
import Derived.ProofKit
import Derived.OpenShut
namespace Go.Proofs.YtilegepenibeoaaDoor
open Go.RowKit Go.ChangeShapes Go.WideShapes Go.ChangeAt
set_option linter.unusedVariables false
theorem bru_of {W : World} (h : ∀ i (hi : i < ([0, 1, 28, 2, 29, 14, 24, 3, 30, 22, 20, 15, 25, 17, 4, 8, 31, 27, 13, 23, 21, 19, 16, 7, 26, 12, 18, 6, 11, 5, 10, 9] : List Int).length), W.cell? ⟨1, i, none⟩ = some (.int .u8 (([0, 1, 28, 2, 29, 14, 24, 3, 30, 22, 20, 15, 25, 17, 4, 8, 31, 27, 13, 23, 21, 19, 16, 7, 26, 12, 18, 6, 11, 5, 10, 9] : List Int).getD i 0))) : Bru W := fun i hi => h i (by simpa using hi)
theorem pcells_u8 : Tryd.prog.cellsOf 5 = 1 := by kernel_rfl
theorem pcells_psr : Tryd.prog.cellsOf 37 = 4 := by kernel_rfl
theorem list4 {α : Type} {l : List α} (h : l.length = 4) : ∃ a b c d, l = [a, b, c, d] := by
  match l, h with
  | [a, b, c, d], _ => exact ⟨a, b, c, d, rfl⟩
set_option maxRecDepth 100000 in
theorem trod_psr {H : Type} {enc : TypeId × Value → H} {w : World} {base : Nat} {spare : Nat → Bool} {held : Bool} {fuel : Nat} {x : DataW H × List MemPlace} {cs : List Value} (h : DataW.trod enc Tryd.prog w base spare held fuel 37 cs = some x) :
    ∃ y : Px, y.bd ∧ cs = [.int .u8 y.cwp, .int .u8 y.pil, .int .u8 y.bank, .int .u8 y.flags] := by
  obtain ⟨xs, n, _, rfl, hl, hlen, hf⟩ := DataW.trod_struct Tryd.underlying37 h
  rw [pcells_psr] at hl
  obtain ⟨c0, c1, c2, c3, rfl⟩ := list4 hl
  obtain ⟨y0, y1, y2, y3, rfl⟩ := list4 hlen
  have h0 := hf 0 _ rfl
  have h1 := hf 1 _ rfl
  have h2 := hf 2 _ rfl
  have h3 := hf 3 _ rfl
  simp [pcells_u8] at h0 h1 h2 h3
  obtain ⟨a0, e0, _, w0⟩ := DataW.trod_int Tryd.underlying5 h0
  obtain ⟨a1, e1, _, w1⟩ := DataW.trod_int Tryd.underlying5 h1
  obtain ⟨a2, e2, _, w2⟩ := DataW.trod_int Tryd.underlying5 h2
  obtain ⟨a3, e3, _, w3⟩ := DataW.trod_int Tryd.underlying5 h3
  simp at e0 e1 e2 e3
  have b0 := bounds_u8 w0
  have b1 := bounds_u8 w1
  have b2 := bounds_u8 w2
  have b3 := bounds_u8 w3
  exact ⟨⟨a0, a1, a2, a3⟩, ⟨by simp only; omega, by simp only; omega, by simp only; omega, by simp only; omega⟩, by rw [e0, e1, e2, e3]⟩
set_option maxRecDepth 100000 in
theorem open_psr {H : Type} {enc : TypeId × Value → H} {W : World} {base b : Nat} {spare : Nat → Bool} {held : Bool} {r : Reach} {v : Value} {d : DataW H} {p : List MemPlace} (hv : Value.okWide Tryd.prog W r b 37 v) (h : DataW.Trod enc Tryd.prog W base spare held 37 v d p) :
    ∃ x : Px, x.bd ∧ v = x.agg := by
  obtain ⟨cs, rfl, hsz⟩ := okWide_struct Tryd.underlying37 hv
  obtain ⟨m, hm⟩ := h
  obtain ⟨y, hb, he⟩ := trod_psr (by simpa [Value.cells] using hm)
  refine ⟨y, hb, ?_⟩
  congr 1
  apply Array.toList_inj.1
  rw [he]
end Go.Proofs.YtilegepenibeoaaDoor
