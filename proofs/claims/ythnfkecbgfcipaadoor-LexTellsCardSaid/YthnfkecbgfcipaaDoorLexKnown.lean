/- The sources that the laws' head names: what the plain lexer says of each. -/
import Derived.Test.YthnfkecbgfcipaaDoorLexFacts
namespace Go.Proofs.YthnfkecbgfcipaaDoor
set_option linter.unusedVariables false
set_option maxRecDepth 100000
def tA : List Tok := [⟨0, [97, 100, 100], 0, 1, 1⟩, ⟨2, [118, 49], 1, 1, 5⟩, ⟨2, [118, 48], 0, 1, 8⟩, ⟨2, [118, 49, 50], 12, 1, 11⟩, ⟨6, [], 0, 1, 14⟩]
def tB : List Tok := [⟨1, [115, 116, 97, 114, 116], 0, 1, 1⟩, ⟨6, [], 0, 1, 7⟩, ⟨0, [99, 111, 110, 115, 116], 0, 2, 2⟩, ⟨2, [118, 48], 0, 2, 8⟩, ⟨3, [45, 49], 4294967295, 2, 11⟩, ⟨6, [], 0, 2, 13⟩]
theorem known_a : lexS [97, 100, 100, 32, 118, 49, 32, 118, 48, 32, 118, 49, 50] = .ok tA := by with_unfolding_all rfl
theorem known_b : lexS [115, 116, 97, 114, 116, 58, 10, 32, 99, 111, 110, 115, 116, 32, 118, 48, 32, 45, 49] = .ok tB := by with_unfolding_all rfl
theorem known_c : lexS [35, 32, 97, 108, 108, 32, 111, 102, 32, 105, 116] = .ok [] := by with_unfolding_all rfl
theorem known_1 : lexS [118, 52, 48, 57, 54] = .error (1, 1) := by with_unfolding_all rfl
theorem known_2 : lexS [118, 48, 49] = .error (1, 1) := by with_unfolding_all rfl
theorem known_3 : lexS [45, 48] = .error (1, 1) := by with_unfolding_all rfl
theorem known_4 : lexS [48, 48, 55] = .error (1, 1) := by with_unfolding_all rfl
theorem known_5 : lexS [97, 45, 98] = .error (1, 1) := by with_unfolding_all rfl
theorem known_6 : lexS [52, 50, 57, 52, 57, 54, 55, 50, 57, 54] = .error (1, 1) := by with_unfolding_all rfl
theorem known_7 : lexS [32, 32, 120, 32, 63] = .error (1, 5) := by with_unfolding_all rfl
theorem known_t : textS tA = [97, 100, 100, 32, 118, 49, 32, 118, 48, 32, 118, 49, 50, 10] := by with_unfolding_all rfl
end Go.Proofs.YthnfkecbgfcipaaDoor
