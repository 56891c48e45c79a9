/-
  No cell of these rows narrows 'for every input' (looked for: loops, veiled, ifaces, maps, wideKeys, modest, calm, conditions, laid).
  DERIVED. THE GIVEN ROWS OF THIS SEAT. 5 by the template 'for every input the law returns true; each argument reads behind the call as it read before'; 0 by the template 'total and deterministic' (their statements: YtdefooailcbnlaaTotals.lean).
  GIVEN WITH THE SEED: the statements are not yours to turn. If you find one false, say at which input.
  Laid BY PROGRAM, IN A SANDBOX (cutbox-rows.mjs): the forced cells as the released guide's own fill.sh prints them over the translation 52512c070d40a0b3… (all of the seat's roots in one cut). By AI agents, Wed Nov 11 2026. No macro, syntax, notation, axiom, sorry.
-/
import Derived.Test.YtdefooailcbnlaaChecked
import GoSem.Claim
import GoSem.ClaimJoined
import GoSem.ClaimMapViews
import Derived.JoinedTies
import Derived.KernelRfl
namespace Go.Proofs.Ytdefooailcbnlaa
/- THE CELL 'sum', in the pinned program and in every row, IS THE sha256 OF THE DUMP (.gsa) THAT YtdefooailcbnlaaProg.lean LOADS. Nothing in Lean hashes anything: it is a label: what it is worth is what the hold of that sum in a sandbox is worth. -/
noncomputable def Try.pinned : Pinned := { name := "ytdefooailcbnlaa", sum := "52512c070d40a0b32b1e6b307b02e3a4908628b416e6a00c3e0bb59172e9eb68", checked := Try.checked }
namespace Rows
def none {H : Type} : Left H := { results := [], args := [] }

/-- 'muntinlaw16.FlatMore': WHATEVER THE INPUT: true; the input reads as it did. -/
def flatMoreSpec : ChangeSpec := { name := "flatMore", fn := fun _ => fun
  | [d1, d2, d3] => { results := [.lit (.bool true)], args := [d1, d2, d3] }
  | _ => none }
def flatMoreRow : OpenClaim := { program := "ytdefooailcbnlaa", sum := "52512c070d40a0b32b1e6b307b02e3a4908628b416e6a00c3e0bb59172e9eb68", func := "muntin/muntinlaw16.FlatMore", spec := "flatMore", unfollowed := true, recurses := true, apart := false }
def FlatMoreSaid : Prop := flatMoreRow.holds Try.pinned (OpenSpec.ofChange flatMoreSpec)

/-- ITS FALSE NEIGHBOUR: 'it returns false'. Refute it at one input. -/
def flatMoreWrong : ChangeSpec := { name := "flatMore", fn := fun _ => fun
  | [d1, d2, d3] => { results := [.lit (.bool false)], args := [d1, d2, d3] }
  | _ => none }
def FlatMoreWrongFalsely : Prop := flatMoreRow.holds Try.pinned (OpenSpec.ofChange flatMoreWrong)

/-- 'muntinlaw16.FlatNames': WHATEVER THE INPUT: true; the input reads as it did. -/
def flatNamesSpec : ChangeSpec := { name := "flatNames", fn := fun _ => fun
  | [d1, d2, d3] => { results := [.lit (.bool true)], args := [d1, d2, d3] }
  | _ => none }
def flatNamesRow : OpenClaim := { program := "ytdefooailcbnlaa", sum := "52512c070d40a0b32b1e6b307b02e3a4908628b416e6a00c3e0bb59172e9eb68", func := "muntin/muntinlaw16.FlatNames", spec := "flatNames", unfollowed := true, recurses := true, apart := false }
def FlatNamesSaid : Prop := flatNamesRow.holds Try.pinned (OpenSpec.ofChange flatNamesSpec)

/-- ITS FALSE NEIGHBOUR: 'it returns false'. Refute it at one input. -/
def flatNamesWrong : ChangeSpec := { name := "flatNames", fn := fun _ => fun
  | [d1, d2, d3] => { results := [.lit (.bool false)], args := [d1, d2, d3] }
  | _ => none }
def FlatNamesWrongFalsely : Prop := flatNamesRow.holds Try.pinned (OpenSpec.ofChange flatNamesWrong)

/-- 'muntinlaw16.FlatChoices': WHATEVER THE INPUT: true; the input reads as it did. -/
def flatChoicesSpec : ChangeSpec := { name := "flatChoices", fn := fun _ => fun
  | [d1, d2, d3] => { results := [.lit (.bool true)], args := [d1, d2, d3] }
  | _ => none }
def flatChoicesRow : OpenClaim := { program := "ytdefooailcbnlaa", sum := "52512c070d40a0b32b1e6b307b02e3a4908628b416e6a00c3e0bb59172e9eb68", func := "muntin/muntinlaw16.FlatChoices", spec := "flatChoices", unfollowed := true, recurses := true, apart := false }
def FlatChoicesSaid : Prop := flatChoicesRow.holds Try.pinned (OpenSpec.ofChange flatChoicesSpec)

/-- ITS FALSE NEIGHBOUR: 'it returns false'. Refute it at one input. -/
def flatChoicesWrong : ChangeSpec := { name := "flatChoices", fn := fun _ => fun
  | [d1, d2, d3] => { results := [.lit (.bool false)], args := [d1, d2, d3] }
  | _ => none }
def FlatChoicesWrongFalsely : Prop := flatChoicesRow.holds Try.pinned (OpenSpec.ofChange flatChoicesWrong)

/-- 'muntinlaw16.FlatFuel': WHATEVER THE INPUT: true; the input reads as it did. -/
def flatFuelSpec : ChangeSpec := { name := "flatFuel", fn := fun _ => fun
  | [d1, d2, d3] => { results := [.lit (.bool true)], args := [d1, d2, d3] }
  | _ => none }
def flatFuelRow : OpenClaim := { program := "ytdefooailcbnlaa", sum := "52512c070d40a0b32b1e6b307b02e3a4908628b416e6a00c3e0bb59172e9eb68", func := "muntin/muntinlaw16.FlatFuel", spec := "flatFuel", unfollowed := true, recurses := true, apart := false }
def FlatFuelSaid : Prop := flatFuelRow.holds Try.pinned (OpenSpec.ofChange flatFuelSpec)

/-- ITS FALSE NEIGHBOUR: 'it returns false'. Refute it at one input. -/
def flatFuelWrong : ChangeSpec := { name := "flatFuel", fn := fun _ => fun
  | [d1, d2, d3] => { results := [.lit (.bool false)], args := [d1, d2, d3] }
  | _ => none }
def FlatFuelWrongFalsely : Prop := flatFuelRow.holds Try.pinned (OpenSpec.ofChange flatFuelWrong)

/-- 'muntinlaw16.FlatNone': WHATEVER THE INPUT: true; the input reads as it did. -/
def flatNoneSpec : ChangeSpec := { name := "flatNone", fn := fun _ => fun
  | [d1, d2] => { results := [.lit (.bool true)], args := [d1, d2] }
  | _ => none }
def flatNoneRow : OpenClaim := { program := "ytdefooailcbnlaa", sum := "52512c070d40a0b32b1e6b307b02e3a4908628b416e6a00c3e0bb59172e9eb68", func := "muntin/muntinlaw16.FlatNone", spec := "flatNone", unfollowed := true, recurses := true, apart := false }
def FlatNoneSaid : Prop := flatNoneRow.holds Try.pinned (OpenSpec.ofChange flatNoneSpec)

/-- ITS FALSE NEIGHBOUR: 'it returns false'. Refute it at one input. -/
def flatNoneWrong : ChangeSpec := { name := "flatNone", fn := fun _ => fun
  | [d1, d2] => { results := [.lit (.bool false)], args := [d1, d2] }
  | _ => none }
def FlatNoneWrongFalsely : Prop := flatNoneRow.holds Try.pinned (OpenSpec.ofChange flatNoneWrong)

/- THE SECOND FORM. 'bulk': how many values and letters a reading holds, each counted each time it is reached (what is shared counts as often as it is met; a slice's spare places count too). A statement '..UptoSaid' is the law's where the arguments, and the package variables that the reading takes, are together of bulk at most 1048576: NARROWER than '..Said'. Prove '..Said' where nothing that the law and all that it calls make is longer than what came in: it says more and counts as full. Else prove '..UptoSaid'. A law counts once. -/
mutual
def uptoBulk {H : Type} : DataW H → Nat
  | .lit (.string bytes) => bytes.length + 1
  | .lit _ => 1
  | .nil => 1
  | .ptr d => uptoBulk d + 1
  | .slice elems spare => uptoBulkAll elems + uptoBulkAll spare + 1
  | .agg parts => uptoBulkAll parts + 1
  | .iface _ d => uptoBulk d + 1
  | .map entries => uptoBulkEntries entries + 1
  | .held _ => 1
def uptoBulkAll {H : Type} : List (DataW H) → Nat
  | [] => 0
  | d :: r => uptoBulk d + uptoBulkAll r
def uptoBulkEntries {H : Type} : List (Lit × DataW H) → Nat
  | [] => 0
  | x :: r => uptoBulkEntry x + uptoBulkEntries r
def uptoBulkEntry {H : Type} : Lit × DataW H → Nat
  | (.string bytes, d) => bytes.length + uptoBulk d + 1
  | (_, d) => uptoBulk d + 1
 end
def uptoSmall : (H : Type) → List (DataW H) → Bool := fun _ ds => decide (uptoBulkAll ds ≤ 1048576)
def OpenSpec.upto (s : _root_.Go.ChangeSpec) : _root_.Go.OpenSpec := { _root_.Go.OpenSpec.ofChange s with cond := some uptoSmall }

/-- 'muntinlaw16.FlatMore', WHERE WHAT IT READS IS OF BULK AT MOST 1048576: true; the input reads as it did. -/
def flatMoreUptoRow : OpenClaim := { program := "ytdefooailcbnlaa", sum := "52512c070d40a0b32b1e6b307b02e3a4908628b416e6a00c3e0bb59172e9eb68", func := "muntin/muntinlaw16.FlatMore", spec := "flatMore", unfollowed := true, recurses := true, apart := false, narrowed := true }
def FlatMoreUptoSaid : Prop := flatMoreUptoRow.holds Try.pinned (OpenSpec.upto flatMoreSpec)

/-- 'muntinlaw16.FlatNames', WHERE WHAT IT READS IS OF BULK AT MOST 1048576: true; the input reads as it did. -/
def flatNamesUptoRow : OpenClaim := { program := "ytdefooailcbnlaa", sum := "52512c070d40a0b32b1e6b307b02e3a4908628b416e6a00c3e0bb59172e9eb68", func := "muntin/muntinlaw16.FlatNames", spec := "flatNames", unfollowed := true, recurses := true, apart := false, narrowed := true }
def FlatNamesUptoSaid : Prop := flatNamesUptoRow.holds Try.pinned (OpenSpec.upto flatNamesSpec)

/-- 'muntinlaw16.FlatChoices', WHERE WHAT IT READS IS OF BULK AT MOST 1048576: true; the input reads as it did. -/
def flatChoicesUptoRow : OpenClaim := { program := "ytdefooailcbnlaa", sum := "52512c070d40a0b32b1e6b307b02e3a4908628b416e6a00c3e0bb59172e9eb68", func := "muntin/muntinlaw16.FlatChoices", spec := "flatChoices", unfollowed := true, recurses := true, apart := false, narrowed := true }
def FlatChoicesUptoSaid : Prop := flatChoicesUptoRow.holds Try.pinned (OpenSpec.upto flatChoicesSpec)

/-- 'muntinlaw16.FlatFuel', WHERE WHAT IT READS IS OF BULK AT MOST 1048576: true; the input reads as it did. -/
def flatFuelUptoRow : OpenClaim := { program := "ytdefooailcbnlaa", sum := "52512c070d40a0b32b1e6b307b02e3a4908628b416e6a00c3e0bb59172e9eb68", func := "muntin/muntinlaw16.FlatFuel", spec := "flatFuel", unfollowed := true, recurses := true, apart := false, narrowed := true }
def FlatFuelUptoSaid : Prop := flatFuelUptoRow.holds Try.pinned (OpenSpec.upto flatFuelSpec)

/-- 'muntinlaw16.FlatNone', WHERE WHAT IT READS IS OF BULK AT MOST 1048576: true; the input reads as it did. -/
def flatNoneUptoRow : OpenClaim := { program := "ytdefooailcbnlaa", sum := "52512c070d40a0b32b1e6b307b02e3a4908628b416e6a00c3e0bb59172e9eb68", func := "muntin/muntinlaw16.FlatNone", spec := "flatNone", unfollowed := true, recurses := true, apart := false, narrowed := true }
def FlatNoneUptoSaid : Prop := flatNoneUptoRow.holds Try.pinned (OpenSpec.upto flatNoneSpec)

end Rows
end Go.Proofs.Ytdefooailcbnlaa
