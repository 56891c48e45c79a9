/- The walks of muntinref14.Has and in. -/
import Derived.Test.YthahjnjkiljaaaaShapeReads
namespace Go.Proofs.Ythahjnjkiljaaaa
open Go.RowKit
set_option linter.unusedVariables false
set_option linter.unusedSimpArgs false
/-- Which letters an operation has. -/
def hasS (op : Int) : ByteArray :=
  if op = 0 then ⟨#[100, 110]⟩ else if op = 1 then ⟨#[100, 97, 98, 110]⟩ else if op = 2 ∨ op = 3 then ⟨#[100, 97]⟩ else if op = 4 then ⟨#[97, 98]⟩ else if op = 5 then ⟨#[100, 102, 120]⟩ else if op = 6 ∨ op = 10 then ⟨#[97]⟩ else if op = 8 then ⟨#[108]⟩ else if op = 9 then ⟨#[97, 108, 109]⟩ else ⟨#[]⟩
set_option maxRecDepth 100000 in
set_option maxHeartbeats 2000000 in
theorem rhas_any (op : Int) (h0 : 0 ≤ op) (h1 : op < 256) (w : World) :
    Calls Try.prog 30 #[.int .u8 op] w fun e w' => e = .returned (.string (hasS op)) ∧ Below w.heap.size w w' := by
  rcases op_cases h0 with rfl | rfl | rfl | rfl | rfl | rfl | rfl | rfl | rfl | rfl | rfl | hop
  case inr.inr.inr.inr.inr.inr.inr.inr.inr.inr.inr =>
    have hs := shid (show hasS op = ⟨#[]⟩ by unfold hasS; repeat (rw [if_neg (by omega)]))
    have hge : (11 : Int) ≤ op := by omega
    go_enter Try.func30, Try.ntmps30
    go_wp2_with fail
    go_ret
    exact ⟨by rw [hs.out]; rfl, by go_grown⟩
  all_goals
    go_enter Try.func30, Try.ntmps30
    go_wp2_with fail
    go_ret
    exact ⟨rfl, by go_grown⟩
end Go.Proofs.Ythahjnjkiljaaaa
