/- What the five variables that the cards of layer 12 list give to a walk. -/
import Derived.Test.YthnfkecbgfcipaaDoorRows
import Derived.Test.YthnfkecbgfcipaaDoorLexSmall
import Derived.LaidSub
import Derived.Lib.LaidTab
import Derived.Stop.LaidErr
import Derived.Shelf.Vars
import Derived.ShapedOpen
namespace Go.Proofs.YthnfkecbgfcipaaDoor
open Go.RowKit Go.Stop Go.Extern.Stop Go.Extern
set_option linter.unusedVariables false
def lexLaid {H : Type} : List (String × DataW H) := [("math/bits.deBruijn32tab", Rows.laid_math_bits_deBruijn32tab), ("math/bits.deBruijn64tab", Rows.laid_math_bits_deBruijn64tab), ("internal/strconv.uint64pow10", Rows.laid_internal_strconv_uint64pow10), ("strconv.ErrRange", Rows.laid_strconv_ErrRange), ("strconv.ErrSyntax", Rows.laid_strconv_ErrSyntax)]
theorem gPow : Tryd.prog.globalNamed "internal/strconv.uint64pow10" = some 1 := by kernel_rfl
theorem gPowType : (Tryd.prog.globals[1]?).map (·.type) = some 106 := by kernel_rfl
theorem cellsPow : Tryd.prog.cellsOf 106 = 20 := by kernel_rfl
theorem cellsU64 : Tryd.prog.cellsOf 74 = 1 := by kernel_rfl
theorem gRange : Tryd.prog.globalNamed "strconv.ErrRange" = some 3 := by kernel_rfl
theorem powOnly {W : World} (h : laidMetH Tryd.prog lexLaid W) : laidMet Tryd.prog [("internal/strconv.uint64pow10", Rows.laid_internal_strconv_uint64pow10)] W := by
  have h2 := laidMetH.filter (fun x => x.1 == "internal/strconv.uint64pow10") h
  have e : (lexLaid : List (String × DataW Unit)).filter (fun x => x.1 == "internal/strconv.uint64pow10") = [("internal/strconv.uint64pow10", Rows.laid_internal_strconv_uint64pow10)] := by kernel_rfl
  rw [e] at h2
  exact h2
theorem powTab {W : World} (h : laidMetH Tryd.prog lexLaid W) : Lib.TabIs Tryd.prog W "internal/strconv.uint64pow10" .u64 Lib.pow10Tab :=
  Lib.tabIs_of_head (rest := []) gPow gPowType Tryd.underlying106 Tryd.underlying74 cellsU64 cellsPow (powOnly h)
theorem var_cell {W : World} {x : Value} (h : W.var? Tryd.prog "strconv.ErrRange" = some #[x]) : W.cell? ⟨3, 0, none⟩ = some x := by
  unfold World.var? at h
  rw [gRange] at h
  simp only [Option.bind_some] at h
  unfold World.cell?
  split at h
  · rename_i c t f e
    rw [e]
    cases h
    rfl
  · cases h
theorem starErr : "*" ++ "errors.errorString" = "*errors.errorString" := by decide
theorem rowErr (u : TypeId) (h : Tryd.prog.typeName? 3 u = some "*errors.errorString") : u = 117 :=
  typeName_ptr_named (nm := "errors.errorString") (by rw [starErr]; kernel_rfl) (by kernel_rfl) (by decide) u (by rw [starErr]; exact h)
theorem rangeOnly {W : World} (h : laidMetH Tryd.prog lexLaid W) : laidMet Tryd.prog [("strconv.ErrRange", Rows.laid_strconv_ErrRange)] W := by
  have h2 := laidMetH.filter (fun x => x.1 == "strconv.ErrRange") h
  have e : (lexLaid : List (String × DataW Unit)).filter (fun x => x.1 == "strconv.ErrRange") = [("strconv.ErrRange", Rows.laid_strconv_ErrRange)] := by kernel_rfl
  rw [e] at h2
  exact h2
theorem lexw_of {W : World} (h : laidMetH Tryd.prog lexLaid W) (hs : W.ShapedOpen Tryd.prog) : LexW W := by
  have hp := powTab h
  refine ⟨?_, ?_, hp, ?_⟩
  · exact cell_of_shapedOpen_int (zero := #[.int .i64 0]) (t := 3) hs (of_decide_eq_true (by kernel_rfl)) (by kernel_rfl) rfl (by kernel_rfl) (by kernel_rfl) Tryd.underlying3
  · obtain ⟨a, s, h1, _⟩ := laid_sentinel (ti := 65) (rangeOnly h) gRange (by kernel_rfl) Tryd.underlying65 rowErr Tryd.underlying117 Tryd.underlying119 rfl rfl Tryd.underlying9 (by kernel_rfl) (by kernel_rfl)
    exact ⟨_, var_cell h1, .inr ⟨_, _, rfl⟩⟩
  · have h1 := hp
    unfold Lib.TabIs World.var? at h1
    rw [gPow] at h1
    simp only [Option.bind_some] at h1
    rcases Nat.lt_or_ge 1 W.heap.size with h2 | h2
    · exact h2
    · rw [Array.getElem?_eq_none h2] at h1; cases h1
end Go.Proofs.YthnfkecbgfcipaaDoor
