/-
  No cell of these rows narrows 'for every input' (looked for: loops, veiled, ifaces, maps, wideKeys, modest, calm, conditions, laid).
  DERIVED. THE GIVEN ROWS OF THIS SEAT. 4 by the template 'for every input the law returns true; each argument reads behind the call as it read before'; 0 by the template 'total and deterministic' (their statements: YthahjnjkiljaaaaTotals.lean).
  GIVEN WITH THE SEED: the statements are not yours to turn. If you find one false, say at which input.
  Laid BY PROGRAM, IN A SANDBOX (cutbox-rows.mjs): the forced cells as the released guide's own fill.sh prints them over the translation cbe280bee20ed3e1… (all of the seat's roots in one cut). By AI agents, Wed Nov 11 2026. No macro, syntax, notation, axiom, sorry.
-/
import Derived.Test.YthahjnjkiljaaaaChecked
import GoSem.Claim
import GoSem.ClaimJoined
import GoSem.ClaimMapViews
import Derived.JoinedTies
import Derived.KernelRfl
namespace Go.Proofs.Ythahjnjkiljaaaa
/- THE CELL 'sum', in the pinned program and in every row, IS THE sha256 OF THE DUMP (.gsa) THAT YthahjnjkiljaaaaProg.lean LOADS. Nothing in Lean hashes anything: it is a label: what it is worth is what the hold of that sum in a sandbox is worth. -/
noncomputable def Try.pinned : Pinned := { name := "ythahjnjkiljaaaa", sum := "cbe280bee20ed3e18d6953ed80454a4d3dfa1840eca79235feb84df40420b191", checked := Try.checked }
namespace Rows
def none {H : Type} : Left H := { results := [], args := [] }

/-- 'muntinlaw14.ShapeTells': WHATEVER THE INPUT: true; the input reads as it did. -/
def shapeTellsSpec : ChangeSpec := { name := "shapeTells", fn := fun _ => fun
  | [d] => { results := [.lit (.bool true)], args := [d] }
  | _ => none }
def shapeTellsRow : OpenClaim := { program := "ythahjnjkiljaaaa", sum := "cbe280bee20ed3e18d6953ed80454a4d3dfa1840eca79235feb84df40420b191", func := "muntin/muntinlaw14.ShapeTells", spec := "shapeTells", unfollowed := true, recurses := true, apart := false }
def ShapeTellsSaid : Prop := shapeTellsRow.holds Try.pinned (OpenSpec.ofChange shapeTellsSpec)

/-- ITS FALSE NEIGHBOUR: 'it returns false'. Refute it at one input. -/
def shapeTellsWrong : ChangeSpec := { name := "shapeTells", fn := fun _ => fun
  | [d] => { results := [.lit (.bool false)], args := [d] }
  | _ => none }
def ShapeTellsWrongFalsely : Prop := shapeTellsRow.holds Try.pinned (OpenSpec.ofChange shapeTellsWrong)

/-- 'muntinlaw14.ShapePaths': WHATEVER THE INPUT: true; the input reads as it did. -/
def shapePathsSpec : ChangeSpec := { name := "shapePaths", fn := fun _ => fun
  | [d1, d2, d3] => { results := [.lit (.bool true)], args := [d1, d2, d3] }
  | _ => none }
def shapePathsRow : OpenClaim := { program := "ythahjnjkiljaaaa", sum := "cbe280bee20ed3e18d6953ed80454a4d3dfa1840eca79235feb84df40420b191", func := "muntin/muntinlaw14.ShapePaths", spec := "shapePaths", unfollowed := true, recurses := true, apart := false }
def ShapePathsSaid : Prop := shapePathsRow.holds Try.pinned (OpenSpec.ofChange shapePathsSpec)

/-- ITS FALSE NEIGHBOUR: 'it returns false'. Refute it at one input. -/
def shapePathsWrong : ChangeSpec := { name := "shapePaths", fn := fun _ => fun
  | [d1, d2, d3] => { results := [.lit (.bool false)], args := [d1, d2, d3] }
  | _ => none }
def ShapePathsWrongFalsely : Prop := shapePathsRow.holds Try.pinned (OpenSpec.ofChange shapePathsWrong)

/-- 'muntinlaw14.ShapeAdds': WHATEVER THE INPUT: true; the input reads as it did. -/
def shapeAddsSpec : ChangeSpec := { name := "shapeAdds", fn := fun _ => fun
  | [d1, d2, d3] => { results := [.lit (.bool true)], args := [d1, d2, d3] }
  | _ => none }
def shapeAddsRow : OpenClaim := { program := "ythahjnjkiljaaaa", sum := "cbe280bee20ed3e18d6953ed80454a4d3dfa1840eca79235feb84df40420b191", func := "muntin/muntinlaw14.ShapeAdds", spec := "shapeAdds", unfollowed := true, recurses := true, apart := false }
def ShapeAddsSaid : Prop := shapeAddsRow.holds Try.pinned (OpenSpec.ofChange shapeAddsSpec)

/-- ITS FALSE NEIGHBOUR: 'it returns false'. Refute it at one input. -/
def shapeAddsWrong : ChangeSpec := { name := "shapeAdds", fn := fun _ => fun
  | [d1, d2, d3] => { results := [.lit (.bool false)], args := [d1, d2, d3] }
  | _ => none }
def ShapeAddsWrongFalsely : Prop := shapeAddsRow.holds Try.pinned (OpenSpec.ofChange shapeAddsWrong)

/-- 'muntinlaw14.ShapeHeaps': WHATEVER THE INPUT: true; the input reads as it did. -/
def shapeHeapsSpec : ChangeSpec := { name := "shapeHeaps", fn := fun _ => fun
  | [d1, d2] => { results := [.lit (.bool true)], args := [d1, d2] }
  | _ => none }
def shapeHeapsRow : OpenClaim := { program := "ythahjnjkiljaaaa", sum := "cbe280bee20ed3e18d6953ed80454a4d3dfa1840eca79235feb84df40420b191", func := "muntin/muntinlaw14.ShapeHeaps", spec := "shapeHeaps", unfollowed := true, recurses := true, apart := false }
def ShapeHeapsSaid : Prop := shapeHeapsRow.holds Try.pinned (OpenSpec.ofChange shapeHeapsSpec)

/-- ITS FALSE NEIGHBOUR: 'it returns false'. Refute it at one input. -/
def shapeHeapsWrong : ChangeSpec := { name := "shapeHeaps", fn := fun _ => fun
  | [d1, d2] => { results := [.lit (.bool false)], args := [d1, d2] }
  | _ => none }
def ShapeHeapsWrongFalsely : Prop := shapeHeapsRow.holds Try.pinned (OpenSpec.ofChange shapeHeapsWrong)

/- THE SECOND FORM. 'bulk': how many values and letters a reading holds, each counted each time it is reached (what is shared counts as often as it is met; a slice's spare places count too). A statement '..UptoSaid' is the law's where the arguments, and the package variables that the reading takes, are together of bulk at most 1048576: NARROWER than '..Said'. Prove '..Said' where nothing that the law and all that it calls make is longer than what came in: it says more and counts as full. Else prove '..UptoSaid'. A law counts once. -/
mutual
def uptoBulk {H : Type} : DataW H → Nat
  | .lit (.string bytes) => bytes.length + 1
  | .lit _ => 1
  | .nil => 1
  | .ptr d => uptoBulk d + 1
  | .slice elems spare => uptoBulkAll elems + uptoBulkAll spare + 1
  | .agg parts => uptoBulkAll parts + 1
  | .iface _ d => uptoBulk d + 1
  | .map entries => uptoBulkEntries entries + 1
  | .held _ => 1
def uptoBulkAll {H : Type} : List (DataW H) → Nat
  | [] => 0
  | d :: r => uptoBulk d + uptoBulkAll r
def uptoBulkEntries {H : Type} : List (Lit × DataW H) → Nat
  | [] => 0
  | x :: r => uptoBulkEntry x + uptoBulkEntries r
def uptoBulkEntry {H : Type} : Lit × DataW H → Nat
  | (.string bytes, d) => bytes.length + uptoBulk d + 1
  | (_, d) => uptoBulk d + 1
 end
def uptoSmall : (H : Type) → List (DataW H) → Bool := fun _ ds => decide (uptoBulkAll ds ≤ 1048576)
def OpenSpec.upto (s : _root_.Go.ChangeSpec) : _root_.Go.OpenSpec := { _root_.Go.OpenSpec.ofChange s with cond := some uptoSmall }

/-- 'muntinlaw14.ShapeTells', WHERE WHAT IT READS IS OF BULK AT MOST 1048576: true; the input reads as it did. -/
def shapeTellsUptoRow : OpenClaim := { program := "ythahjnjkiljaaaa", sum := "cbe280bee20ed3e18d6953ed80454a4d3dfa1840eca79235feb84df40420b191", func := "muntin/muntinlaw14.ShapeTells", spec := "shapeTells", unfollowed := true, recurses := true, apart := false, narrowed := true }
def ShapeTellsUptoSaid : Prop := shapeTellsUptoRow.holds Try.pinned (OpenSpec.upto shapeTellsSpec)

/-- 'muntinlaw14.ShapePaths', WHERE WHAT IT READS IS OF BULK AT MOST 1048576: true; the input reads as it did. -/
def shapePathsUptoRow : OpenClaim := { program := "ythahjnjkiljaaaa", sum := "cbe280bee20ed3e18d6953ed80454a4d3dfa1840eca79235feb84df40420b191", func := "muntin/muntinlaw14.ShapePaths", spec := "shapePaths", unfollowed := true, recurses := true, apart := false, narrowed := true }
def ShapePathsUptoSaid : Prop := shapePathsUptoRow.holds Try.pinned (OpenSpec.upto shapePathsSpec)

/-- 'muntinlaw14.ShapeAdds', WHERE WHAT IT READS IS OF BULK AT MOST 1048576: true; the input reads as it did. -/
def shapeAddsUptoRow : OpenClaim := { program := "ythahjnjkiljaaaa", sum := "cbe280bee20ed3e18d6953ed80454a4d3dfa1840eca79235feb84df40420b191", func := "muntin/muntinlaw14.ShapeAdds", spec := "shapeAdds", unfollowed := true, recurses := true, apart := false, narrowed := true }
def ShapeAddsUptoSaid : Prop := shapeAddsUptoRow.holds Try.pinned (OpenSpec.upto shapeAddsSpec)

/-- 'muntinlaw14.ShapeHeaps', WHERE WHAT IT READS IS OF BULK AT MOST 1048576: true; the input reads as it did. -/
def shapeHeapsUptoRow : OpenClaim := { program := "ythahjnjkiljaaaa", sum := "cbe280bee20ed3e18d6953ed80454a4d3dfa1840eca79235feb84df40420b191", func := "muntin/muntinlaw14.ShapeHeaps", spec := "shapeHeaps", unfollowed := true, recurses := true, apart := false, narrowed := true }
def ShapeHeapsUptoSaid : Prop := shapeHeapsUptoRow.holds Try.pinned (OpenSpec.upto shapeHeapsSpec)

end Rows
end Go.Proofs.Ythahjnjkiljaaaa
