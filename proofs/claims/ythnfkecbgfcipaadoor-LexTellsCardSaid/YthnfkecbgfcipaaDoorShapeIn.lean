/- The walks of muntinref14.in, Writes, Reads, SameInts. -/
import Derived.Test.YthnfkecbgfcipaaDoorShapeHas
namespace Go.Proofs.YthnfkecbgfcipaaDoor
open Go.RowKit
set_option linter.unusedVariables false
set_option linter.unusedSimpArgs false
def inB (s : ByteArray) (c : Int) : Bool := s.data.toList.any fun b => decide ((b.toNat : Int) = c)
theorem stake_snoc (s : ByteArray) (k : Nat) (h : k < s.size) : s.data.toList.take (k + 1) = s.data.toList.take k ++ [s[k]] := by
  rw [List.take_succ_eq_append_getElem (by simpa using h)]; rfl
def hasA (op : Int) : Bool := decide (op = 1 ∨ op = 2 ∨ op = 3 ∨ op = 4 ∨ op = 6 ∨ op = 9 ∨ op = 10)
theorem hasS_size (op : Int) : (hasS op).size ≤ 100 := by
  unfold hasS
  repeat (split; · decide)
  decide
theorem in_letters {op : Int} (h0 : 0 ≤ op) : inB (hasS op) 100 = decide (op = 0 ∨ op = 1 ∨ op = 2 ∨ op = 3 ∨ op = 5) ∧ inB (hasS op) 97 = hasA op ∧ inB (hasS op) 98 = decide (op = 1 ∨ op = 4) ∧ inB (hasS op) 110 = decide (op = 0 ∨ op = 1) ∧
    inB (hasS op) 102 = decide (op = 5) ∧ inB (hasS op) 120 = decide (op = 5) ∧ inB (hasS op) 108 = decide (op = 8 ∨ op = 9) ∧ inB (hasS op) 109 = decide (op = 9) := by
  rcases op_cases h0 with rfl | rfl | rfl | rfl | rfl | rfl | rfl | rfl | rfl | rfl | rfl | hop
  case inr.inr.inr.inr.inr.inr.inr.inr.inr.inr.inr =>
    have hs : hasS op = ⟨#[]⟩ := by unfold hasS; repeat (rw [if_neg (by omega)])
    rw [hs]
    unfold hasA
    refine ⟨?_, ?_, ?_, ?_, ?_, ?_, ?_, ?_⟩
    all_goals (symm; exact decide_eq_false (by omega))
  all_goals decide +kernel
end Go.Proofs.YthnfkecbgfcipaaDoor
