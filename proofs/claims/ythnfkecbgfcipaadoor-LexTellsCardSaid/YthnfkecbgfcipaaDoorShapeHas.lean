/- The walks of muntinref14.Has and in. -/
import Derived.Test.YthnfkecbgfcipaaDoorShapeReads
namespace Go.Proofs.YthnfkecbgfcipaaDoor
open Go.RowKit
set_option linter.unusedVariables false
set_option linter.unusedSimpArgs false
/-- Which letters an operation has. -/
def hasS (op : Int) : ByteArray :=
  if op = 0 then ⟨#[100, 110]⟩ else if op = 1 then ⟨#[100, 97, 98, 110]⟩ else if op = 2 ∨ op = 3 then ⟨#[100, 97]⟩ else if op = 4 then ⟨#[97, 98]⟩ else if op = 5 then ⟨#[100, 102, 120]⟩ else if op = 6 ∨ op = 10 then ⟨#[97]⟩ else if op = 8 then ⟨#[108]⟩ else if op = 9 then ⟨#[97, 108, 109]⟩ else ⟨#[]⟩
end Go.Proofs.YthnfkecbgfcipaaDoor
