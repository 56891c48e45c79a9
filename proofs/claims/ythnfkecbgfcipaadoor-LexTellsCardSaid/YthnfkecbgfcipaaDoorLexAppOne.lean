/- A token put behind a row of tokens. No function of the program is walked here. -/
import Derived.Test.YthnfkecbgfcipaaDoorLexApp
namespace Go.Proofs.YthnfkecbgfcipaaDoor
open Go.RowKit
set_option linter.unusedVariables false
theorem tok_one (W : World) (t : Tok) : TokIn (W.alloc (.cells #[.int .u8 (t.kind : Int), .string ⟨t.text.toArray⟩, .int .u32 (t.n : Int), .int .i64 (t.line : Int), .int .i64 (t.col : Int)] 41)) (.slice (some ⟨W.heap.size, 0, none⟩) 1 1) [t] := by
  refine tok_in (base := W.heap.size) (ts := [t]) ⟨rfl, .inr ⟨W.heap.size, 1, _, rfl, Nat.le_refl _, World.alloc_heap_new _ _, Nat.le_refl _, by decide, rfl, rfl⟩⟩ (by simp)
theorem app_one {W : World} {base : Nat} {v : Value} {ts : List Tok} (hrow : W.ownsRow base 41 5 v ts.length (toksC ts)) (t : Tok) (hn : ts.length ≤ 1000000000) (hb : base ≤ W.heap.size) :
    ∃ v' W', (Builtin.append_ #[23, 23] 23 #[v, .slice (some ⟨W.heap.size, 0, none⟩) 1 1]).run Tryd.prog (W.alloc (.cells #[.int .u8 (t.kind : Int), .string ⟨t.text.toArray⟩, .int .u32 (t.n : Int), .int .i64 (t.line : Int), .int .i64 (t.col : Int)] 41)) = .ok v' W' ∧ W'.ownsRow base 41 5 v' (ts ++ [t]).length (toksC (ts ++ [t])) ∧ Below base W W' := by
  have hk : Below base W (W.alloc (.cells #[.int .u8 (t.kind : Int), .string ⟨t.text.toArray⟩, .int .u32 (t.n : Int), .int .i64 (t.line : Int), .int .i64 (t.col : Int)] 41)) := (Below.refl _ _).alloc hb _
  obtain ⟨v', W', h1, h2, h3⟩ := app_toks (hrow.alloc (.cells #[.int .u8 (t.kind : Int), .string ⟨t.text.toArray⟩, .int .u32 (t.n : Int), .int .i64 (t.line : Int), .int .i64 (t.col : Int)] 41)) (tok_one W t) (by simp; omega) (by simp; omega)
  refine ⟨v', W', h1, ?_, hk.trans h3⟩
  have e : toksC (ts ++ [t]) = toksC ts ++ toksC [t] := List.flatMap_append
  rw [e, List.length_append]
  exact h2
end Go.Proofs.YthnfkecbgfcipaaDoor
