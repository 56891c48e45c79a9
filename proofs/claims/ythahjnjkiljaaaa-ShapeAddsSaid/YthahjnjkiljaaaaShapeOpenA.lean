/- How an argument of type [2]uint16 is read. -/
import Derived.Test.YthahjnjkiljaaaaShapeOpen
namespace Go.Proofs.Ythahjnjkiljaaaa
open Go.RowKit Go.ChangeShapes Go.WideShapes Go.ChangeAt
set_option linter.unusedVariables false
theorem cells_pair16 : Try.prog.cellsOf 51 = 2 := by kernel_rfl
theorem cells_u16' : Try.prog.cellsOf 50 = 1 := by kernel_rfl
theorem open_pair16 {H : Type} {enc : TypeId × Value → H} {W : World} {base b : Nat} {spare : Nat → Bool} {held : Bool} {r : Reach} {v : Value} {d : DataW H} {p : List MemPlace} (hv : Value.okWide Try.prog W r b 51 v) (h : DataW.Trod enc Try.prog W base spare held 51 v d p) :
    ∃ x y, v = .agg #[.int .u16 x, .int .u16 y] ∧ (0 ≤ x ∧ x < 65536) ∧ (0 ≤ y ∧ y < 65536) := by
  simp only [Value.okWide, Try.underlying51] at hv
  obtain ⟨cs, rfl, hsz, _⟩ := hv
  rw [cells_pair16] at hsz
  obtain ⟨c0, c1, rfl⟩ : ∃ a b, cs = #[a, b] := by
    obtain ⟨l⟩ := cs
    match l, hsz with
    | [a, b], _ => exact ⟨a, b, rfl⟩
  obtain ⟨fuel, hf⟩ := h
  obtain ⟨xs, n, _, _, hl, hlen, hx⟩ := DataW.trod_array Try.underlying51 hf
  match xs, hlen with
  | [y0, y1], _ =>
    have h0 := hx 0 (by omega)
    have h1 := hx 1 (by omega)
    simp [cells_u16', Value.cells] at h0 h1
    obtain ⟨x, e0, _, w0⟩ := DataW.trod_int Try.underlying50 h0
    obtain ⟨y, e1, _, w1⟩ := DataW.trod_int Try.underlying50 h1
    have b0 := bounds_u16 w0
    have b1 := bounds_u16 w1
    simp at e0 e1
    exact ⟨x, y, by rw [e0, e1], by omega, by omega⟩
end Go.Proofs.Ythahjnjkiljaaaa
