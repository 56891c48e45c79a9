/- 'LexWords': its walk. -/
import Derived.Test.YthnfkecbgfcipaaDoorLexHead
import Derived.Test.YthnfkecbgfcipaaDoorLexWordsLaw
namespace Go.Proofs.YthnfkecbgfcipaaDoor
open Go.RowKit
set_option linter.unusedVariables false
set_option linter.unusedSimpArgs false
theorem lex_some (s : List UInt8) (hs : s.length ≤ 65536) (w : World) (hW : LexW w) : Calls Tryd.prog 7 #[.string ⟨s.toArray⟩] w fun e w' => (∃ v a b er, e = .returned (.tuple #[v, .agg #[.int .i64 a, .int .i64 b], .int .i64 er])) ∧ Below w.heap.size w w' := by
  refine (lex_any s hs w hW).mono ?_
  rintro e w' ⟨h1, h2⟩
  refine ⟨?_, h2⟩
  cases h : lexS s with
  | ok ts => rw [h] at h1; obtain ⟨v, rfl, _⟩ := h1; exact ⟨v, 0, 0, 0, rfl⟩
  | error p => rw [h] at h1; subst h1; exact ⟨_, _, _, _, rfl⟩
theorem ba_cat (a b c : ByteArray) : a ++ b ++ c = ⟨(a.data.toList ++ b.data.toList ++ c.data.toList).toArray⟩ := by
  apply ByteArray.ext
  simp [ByteArray.data_append]
theorem ba_self (s : ByteArray) : (⟨s.data.toList.toArray⟩ : ByteArray) = s := by apply ByteArray.ext; simp
end Go.Proofs.YthnfkecbgfcipaaDoor
