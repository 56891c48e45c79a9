/- The walk of muntinref14.empty, an operation at a time. -/
import Derived.Test.YtdefooailcbnlaaG06
import Derived.BigGuardPart
namespace Go.Proofs.Ytdefooailcbnlaa
open Go.RowKit
set_option linter.unusedVariables false
set_option linter.unusedSimpArgs false
/-- What an instruction does not have is 0. -/
def emptyF (op d a b n f : Int) (len : Nat) (l1 l2 : Int) : Prop :=
  ((op = 0 ∨ op = 1 ∨ op = 2 ∨ op = 3 ∨ op = 5) ∨ d = 0) ∧ ((op = 1 ∨ op = 2 ∨ op = 3 ∨ op = 4 ∨ op = 6 ∨ op = 9 ∨ op = 10) ∨ a = 0) ∧ ((op = 1 ∨ op = 4) ∨ b = 0) ∧ ((op = 0 ∨ op = 1) ∨ n = 0) ∧
    (op = 5 ∨ f = 0) ∧ (op = 5 ∨ len = 0) ∧ ((op = 8 ∨ op = 9) ∨ l1 = 0) ∧ (op = 9 ∨ l2 = 0)
instance (op d a b n f : Int) (len : Nat) (l1 l2 : Int) : Decidable (emptyF op d a b n f len l1 l2) := by unfold emptyF; infer_instance
theorem Ibox_of (w : World) (op d a b n f : Int) (av : Value) (l1 l2 : Int) (t : TypeId) : IBox (w.alloc (.cells #[.int .u8 op, .int .i64 d, .int .i64 a, .int .i64 b, .int .u32 n, .int .i64 f, av, .int .i64 l1, .int .i64 l2] t)) w.heap.size ⟨op, d, a, b, n, f, [], l1, l2⟩ av := IBox.new w ⟨op, d, a, b, n, f, [], l1, l2⟩ av t
end Go.Proofs.Ytdefooailcbnlaa
