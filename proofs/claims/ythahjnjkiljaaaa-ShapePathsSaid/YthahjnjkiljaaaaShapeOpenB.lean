/- How an argument of type []bool is read. -/
import Derived.Test.YthahjnjkiljaaaaShapeOpen
import Derived.Test.YthahjnjkiljaaaaShapePathsWalk
namespace Go.Proofs.Ythahjnjkiljaaaa
open Go.RowKit Go.ChangeShapes Go.WideShapes Go.ChangeAt
set_option linter.unusedVariables false
theorem sc_bool : Try.prog.cellsOf 4 = 1 := by kernel_rfl
theorem sb_bool : Try.prog.bytesOf 4 = 1 := by kernel_rfl
theorem opens_bool {H : Type} {enc : TypeId × Value → H} {w : World} {base : Nat} {spare : Nat → Bool} {held : Bool} : Opens enc w base spare held BoolAt 4 := by
  intro fuel cs x h _
  obtain ⟨a, e0, _⟩ := DataW.trod_bool Try.underlying4 h
  subst e0
  exact ⟨a, fun b o hc => hc 0 _ rfl⟩
theorem open_bools {H : Type} {enc : TypeId × Value → H} {W : World} {base b : Nat} {spare : Nat → Bool} {held : Bool} {r : Reach} {v : Value} {d : DataW H} {p : List MemPlace} (hv : Value.okWide Try.prog W r b 45 v) (h : DataW.Trod enc Try.prog W base spare held 45 v d p) (hw : (d.weights Try.prog 45).all (· ≤ reachBytes) = true) : ∃ l, BoolsIn W v l := by
  obtain ⟨a, len, cap, rfl⟩ := okWide_slice Try.underlying45 hv
  obtain ⟨m, hm⟩ := h
  obtain ⟨u, l, e, hl⟩ := trod_rows Try.underlying45 sc_bool sb_bool (by omega) opens_bool hm hw
  simp [Value.cells] at e
  subst e
  exact ⟨l, hl⟩
end Go.Proofs.Ythahjnjkiljaaaa
