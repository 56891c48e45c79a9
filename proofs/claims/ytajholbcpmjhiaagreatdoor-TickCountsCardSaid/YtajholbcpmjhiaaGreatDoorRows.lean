/-
  NARROWER THAN 'FOR EVERY INPUT', by the rows' own cells (each row's printed sentence says how): WindBack: laid · WindTurns: laid · SwapWords: laid · SwapBack: laid · SwapTurns: laid · TickCounts: laid.
  DERIVED. THE GIVEN ROWS OF THIS SEAT. 6 by the template 'for every input the law returns true; each argument reads behind the call as it read before'; 0 by the template 'total and deterministic' (their statements: YtajholbcpmjhiaaGreatDoorTotals.lean).
  GIVEN WITH THE SEED: the statements are not yours to turn. If you find one false, say at which input.
  Laid BY PROGRAM, IN A SANDBOX (cutbox-rows.mjs): the forced cells as the released guide's own fill.sh prints them over the translation 9de559a1665c3e3e… (all of the seat's roots in one cut). By AI agents, Wed Nov 11 2026. No macro, syntax, notation, axiom, sorry.
-/
import Derived.Test.YtajholbcpmjhiaaGreatDoorChecked
import GoSem.Claim
import GoSem.ClaimJoined
import GoSem.ClaimMapViews
import Derived.JoinedTies
import Derived.KernelRfl
namespace Go.Proofs.YtajholbcpmjhiaaGreatDoor
/- THE CELL 'sum', in the pinned program and in every row, IS THE sha256 OF THE DUMP (.gsa) THAT YtajholbcpmjhiaaGreatDoorProg.lean LOADS. Nothing in Lean hashes anything: it is a label: what it is worth is what the hold of that sum in a sandbox is worth. -/
noncomputable def Tryz.pinned : Pinned := { name := "ytajholbcpmjhiaagreatdoor", sum := "9de559a1665c3e3e74793b43303e740c827be8ff6278431d0144321b98fa7df2", checked := Tryz.checked }
namespace Rows
def none {H : Type} : Left H := { results := [], args := [] }

/- WHAT THE LISTED PACKAGE-LEVEL VARIABLES READ AS WHEN THE CALL BEGINS. Each datum BY PROGRAM (the guide's laid-datum.mjs) off the statement by which the dump's own 'gosem.cut.vars' lays the variable. In a bare row this is a premise. The card (YtajholbcpmjhiaaGreatDoorCards.lean) ties it to the program's text. -/
def laid_math_bits_deBruijn32tab {H : Type} : DataW H := .agg [.lit (.int .u8 0), .lit (.int .u8 1), .lit (.int .u8 28), .lit (.int .u8 2), .lit (.int .u8 29), .lit (.int .u8 14), .lit (.int .u8 24), .lit (.int .u8 3), .lit (.int .u8 30), .lit (.int .u8 22), .lit (.int .u8 20), .lit (.int .u8 15), .lit (.int .u8 25), .lit (.int .u8 17), .lit (.int .u8 4), .lit (.int .u8 8), .lit (.int .u8 31), .lit (.int .u8 27), .lit (.int .u8 13), .lit (.int .u8 23), .lit (.int .u8 21), .lit (.int .u8 19), .lit (.int .u8 16), .lit (.int .u8 7), .lit (.int .u8 26), .lit (.int .u8 12), .lit (.int .u8 18), .lit (.int .u8 6), .lit (.int .u8 11), .lit (.int .u8 5), .lit (.int .u8 10), .lit (.int .u8 9)]
def laid_muntin_inst_fields {H : Type} : DataW H := .agg [.lit (.int .u8 128), .lit (.int .u8 7), .lit (.int .u8 7), .lit (.int .u8 7), .lit (.int .u8 7), .lit (.int .u8 7), .lit (.int .u8 7), .lit (.int .u8 7), .lit (.int .u8 7), .lit (.int .u8 7), .lit (.int .u8 7), .lit (.int .u8 7), .lit (.int .u8 7), .lit (.int .u8 7), .lit (.int .u8 7), .lit (.int .u8 25), .lit (.int .u8 6), .lit (.int .u8 25), .lit (.int .u8 24), .lit (.int .u8 7), .lit (.int .u8 7), .lit (.int .u8 7), .lit (.int .u8 7), .lit (.int .u8 7), .lit (.int .u8 7), .lit (.int .u8 7), .lit (.int .u8 1), .lit (.int .u8 6), .lit (.int .u8 1), .lit (.int .u8 6), .lit (.int .u8 9), .lit (.int .u8 10), .lit (.int .u8 0), .lit (.int .u8 8), .lit (.int .u8 1), .lit (.int .u8 2), .lit (.int .u8 2), .lit (.int .u8 8)]
def laid_math_bits_deBruijn64tab {H : Type} : DataW H := .agg [.lit (.int .u8 0), .lit (.int .u8 1), .lit (.int .u8 56), .lit (.int .u8 2), .lit (.int .u8 57), .lit (.int .u8 49), .lit (.int .u8 28), .lit (.int .u8 3), .lit (.int .u8 61), .lit (.int .u8 58), .lit (.int .u8 42), .lit (.int .u8 50), .lit (.int .u8 38), .lit (.int .u8 29), .lit (.int .u8 17), .lit (.int .u8 4), .lit (.int .u8 62), .lit (.int .u8 47), .lit (.int .u8 59), .lit (.int .u8 36), .lit (.int .u8 45), .lit (.int .u8 43), .lit (.int .u8 51), .lit (.int .u8 22), .lit (.int .u8 53), .lit (.int .u8 39), .lit (.int .u8 33), .lit (.int .u8 30), .lit (.int .u8 24), .lit (.int .u8 18), .lit (.int .u8 12), .lit (.int .u8 5), .lit (.int .u8 63), .lit (.int .u8 55), .lit (.int .u8 48), .lit (.int .u8 27), .lit (.int .u8 60), .lit (.int .u8 41), .lit (.int .u8 37), .lit (.int .u8 16), .lit (.int .u8 46), .lit (.int .u8 35), .lit (.int .u8 44), .lit (.int .u8 21), .lit (.int .u8 52), .lit (.int .u8 32), .lit (.int .u8 23), .lit (.int .u8 11), .lit (.int .u8 54), .lit (.int .u8 26), .lit (.int .u8 40), .lit (.int .u8 15), .lit (.int .u8 34), .lit (.int .u8 20), .lit (.int .u8 31), .lit (.int .u8 10), .lit (.int .u8 25), .lit (.int .u8 14), .lit (.int .u8 19), .lit (.int .u8 9), .lit (.int .u8 13), .lit (.int .u8 8), .lit (.int .u8 7), .lit (.int .u8 6)]
def laid_internal_strconv_uint64pow10 {H : Type} : DataW H := .agg [.lit (.int .u64 1), .lit (.int .u64 10), .lit (.int .u64 100), .lit (.int .u64 1000), .lit (.int .u64 10000), .lit (.int .u64 100000), .lit (.int .u64 1000000), .lit (.int .u64 10000000), .lit (.int .u64 100000000), .lit (.int .u64 1000000000), .lit (.int .u64 10000000000), .lit (.int .u64 100000000000), .lit (.int .u64 1000000000000), .lit (.int .u64 10000000000000), .lit (.int .u64 100000000000000), .lit (.int .u64 1000000000000000), .lit (.int .u64 10000000000000000), .lit (.int .u64 100000000000000000), .lit (.int .u64 1000000000000000000), .lit (.int .u64 10000000000000000000)]

/-- 'muntinlaw08.WindBack': WHATEVER THE INPUT: true; the input reads as it did. -/
def windBackSpec : ChangeSpec := { name := "windBack", fn := fun _ => fun
  | [d1, d2] => { results := [.lit (.bool true)], args := [d1, d2] }
  | _ => none }
def windBackRow : OpenClaim := { program := "ytajholbcpmjhiaagreatdoor", sum := "9de559a1665c3e3e74793b43303e740c827be8ff6278431d0144321b98fa7df2", func := "muntin/muntinlaw08.WindBack", spec := "windBack", inPlace := ["maps.clone"], unfollowed := true, recurses := true, named := ["muntin/inst.fields", "math/bits.deBruijn32tab"], apart := false, laid := [("math/bits.deBruijn32tab", laid_math_bits_deBruijn32tab), ("muntin/inst.fields", laid_muntin_inst_fields)] }
def WindBackSaid : Prop := windBackRow.holds Tryz.pinned (OpenSpec.ofChange windBackSpec)

/-- ITS FALSE NEIGHBOUR: 'it returns false'. Refute it at one input. -/
def windBackWrong : ChangeSpec := { name := "windBack", fn := fun _ => fun
  | [d1, d2] => { results := [.lit (.bool false)], args := [d1, d2] }
  | _ => none }
def WindBackWrongFalsely : Prop := windBackRow.holds Tryz.pinned (OpenSpec.ofChange windBackWrong)

/-- 'muntinlaw08.WindTurns': WHATEVER THE INPUT: true; the input reads as it did. -/
def windTurnsSpec : ChangeSpec := { name := "windTurns", fn := fun _ => fun
  | [d] => { results := [.lit (.bool true)], args := [d] }
  | _ => none }
def windTurnsRow : OpenClaim := { program := "ytajholbcpmjhiaagreatdoor", sum := "9de559a1665c3e3e74793b43303e740c827be8ff6278431d0144321b98fa7df2", func := "muntin/muntinlaw08.WindTurns", spec := "windTurns", inPlace := ["maps.clone"], unfollowed := true, recurses := true, named := ["muntin/inst.fields", "math/bits.deBruijn32tab"], apart := false, laid := [("math/bits.deBruijn32tab", laid_math_bits_deBruijn32tab), ("muntin/inst.fields", laid_muntin_inst_fields)] }
def WindTurnsSaid : Prop := windTurnsRow.holds Tryz.pinned (OpenSpec.ofChange windTurnsSpec)

/-- ITS FALSE NEIGHBOUR: 'it returns false'. Refute it at one input. -/
def windTurnsWrong : ChangeSpec := { name := "windTurns", fn := fun _ => fun
  | [d] => { results := [.lit (.bool false)], args := [d] }
  | _ => none }
def WindTurnsWrongFalsely : Prop := windTurnsRow.holds Tryz.pinned (OpenSpec.ofChange windTurnsWrong)

/-- 'muntinlaw10.SwapWords': WHATEVER THE INPUT: true; the input reads as it did. -/
def swapWordsSpec : ChangeSpec := { name := "swapWords", fn := fun _ => fun
  | [d1, d2] => { results := [.lit (.bool true)], args := [d1, d2] }
  | _ => none }
def swapWordsRow : OpenClaim := { program := "ytajholbcpmjhiaagreatdoor", sum := "9de559a1665c3e3e74793b43303e740c827be8ff6278431d0144321b98fa7df2", func := "muntin/muntinlaw10.SwapWords", spec := "swapWords", inPlace := ["maps.clone"], unfollowed := true, recurses := true, named := ["muntin/inst.fields", "math/bits.deBruijn32tab"], apart := false, laid := [("math/bits.deBruijn32tab", laid_math_bits_deBruijn32tab), ("muntin/inst.fields", laid_muntin_inst_fields)] }
def SwapWordsSaid : Prop := swapWordsRow.holds Tryz.pinned (OpenSpec.ofChange swapWordsSpec)

/-- ITS FALSE NEIGHBOUR: 'it returns false'. Refute it at one input. -/
def swapWordsWrong : ChangeSpec := { name := "swapWords", fn := fun _ => fun
  | [d1, d2] => { results := [.lit (.bool false)], args := [d1, d2] }
  | _ => none }
def SwapWordsWrongFalsely : Prop := swapWordsRow.holds Tryz.pinned (OpenSpec.ofChange swapWordsWrong)

/-- 'muntinlaw10.SwapBack': WHATEVER THE INPUT: true; the input reads as it did. -/
def swapBackSpec : ChangeSpec := { name := "swapBack", fn := fun _ => fun
  | [d] => { results := [.lit (.bool true)], args := [d] }
  | _ => none }
def swapBackRow : OpenClaim := { program := "ytajholbcpmjhiaagreatdoor", sum := "9de559a1665c3e3e74793b43303e740c827be8ff6278431d0144321b98fa7df2", func := "muntin/muntinlaw10.SwapBack", spec := "swapBack", inPlace := ["maps.clone"], unfollowed := true, recurses := true, named := ["muntin/inst.fields", "math/bits.deBruijn32tab"], apart := false, laid := [("math/bits.deBruijn32tab", laid_math_bits_deBruijn32tab), ("muntin/inst.fields", laid_muntin_inst_fields)] }
def SwapBackSaid : Prop := swapBackRow.holds Tryz.pinned (OpenSpec.ofChange swapBackSpec)

/-- ITS FALSE NEIGHBOUR: 'it returns false'. Refute it at one input. -/
def swapBackWrong : ChangeSpec := { name := "swapBack", fn := fun _ => fun
  | [d] => { results := [.lit (.bool false)], args := [d] }
  | _ => none }
def SwapBackWrongFalsely : Prop := swapBackRow.holds Tryz.pinned (OpenSpec.ofChange swapBackWrong)

/-- 'muntinlaw10.SwapTurns': WHATEVER THE INPUT: true; the input reads as it did. -/
def swapTurnsSpec : ChangeSpec := { name := "swapTurns", fn := fun _ => fun
  | [d] => { results := [.lit (.bool true)], args := [d] }
  | _ => none }
def swapTurnsRow : OpenClaim := { program := "ytajholbcpmjhiaagreatdoor", sum := "9de559a1665c3e3e74793b43303e740c827be8ff6278431d0144321b98fa7df2", func := "muntin/muntinlaw10.SwapTurns", spec := "swapTurns", inPlace := ["maps.clone"], unfollowed := true, recurses := true, named := ["muntin/inst.fields", "math/bits.deBruijn32tab"], apart := false, laid := [("math/bits.deBruijn32tab", laid_math_bits_deBruijn32tab), ("muntin/inst.fields", laid_muntin_inst_fields)] }
def SwapTurnsSaid : Prop := swapTurnsRow.holds Tryz.pinned (OpenSpec.ofChange swapTurnsSpec)

/-- ITS FALSE NEIGHBOUR: 'it returns false'. Refute it at one input. -/
def swapTurnsWrong : ChangeSpec := { name := "swapTurns", fn := fun _ => fun
  | [d] => { results := [.lit (.bool false)], args := [d] }
  | _ => none }
def SwapTurnsWrongFalsely : Prop := swapTurnsRow.holds Tryz.pinned (OpenSpec.ofChange swapTurnsWrong)

/-- 'muntinlaw09.TickCounts': WHATEVER THE INPUT: true; the input reads as it did. -/
def tickCountsSpec : ChangeSpec := { name := "tickCounts", fn := fun _ => fun
  | [d1, d2] => { results := [.lit (.bool true)], args := [d1, d2] }
  | _ => none }
def tickCountsRow : OpenClaim := { program := "ytajholbcpmjhiaagreatdoor", sum := "9de559a1665c3e3e74793b43303e740c827be8ff6278431d0144321b98fa7df2", func := "muntin/muntinlaw09.TickCounts", spec := "tickCounts", inPlace := ["maps.clone"], unfollowed := true, recurses := true, named := ["internal/strconv.uint64pow10", "math/bits.deBruijn32tab", "math/bits.deBruijn64tab", "muntin/inst.fields"], apart := false, laid := [("math/bits.deBruijn32tab", laid_math_bits_deBruijn32tab), ("math/bits.deBruijn64tab", laid_math_bits_deBruijn64tab), ("internal/strconv.uint64pow10", laid_internal_strconv_uint64pow10), ("muntin/inst.fields", laid_muntin_inst_fields)] }
def TickCountsSaid : Prop := tickCountsRow.holds Tryz.pinned (OpenSpec.ofChange tickCountsSpec)

/-- ITS FALSE NEIGHBOUR: 'it returns false'. Refute it at one input. -/
def tickCountsWrong : ChangeSpec := { name := "tickCounts", fn := fun _ => fun
  | [d1, d2] => { results := [.lit (.bool false)], args := [d1, d2] }
  | _ => none }
def TickCountsWrongFalsely : Prop := tickCountsRow.holds Tryz.pinned (OpenSpec.ofChange tickCountsWrong)

/- THE SECOND FORM. 'bulk': how many values and letters a reading holds, each counted each time it is reached (what is shared counts as often as it is met; a slice's spare places count too). A statement '..UptoSaid' is the law's where the arguments, and the package variables that the reading takes, are together of bulk at most 1048576: NARROWER than '..Said'. Prove '..Said' where nothing that the law and all that it calls make is longer than what came in: it says more and counts as full. Else prove '..UptoSaid'. A law counts once. -/
mutual
def uptoBulk {H : Type} : DataW H → Nat
  | .lit (.string bytes) => bytes.length + 1
  | .lit _ => 1
  | .nil => 1
  | .ptr d => uptoBulk d + 1
  | .slice elems spare => uptoBulkAll elems + uptoBulkAll spare + 1
  | .agg parts => uptoBulkAll parts + 1
  | .iface _ d => uptoBulk d + 1
  | .map entries => uptoBulkEntries entries + 1
  | .held _ => 1
def uptoBulkAll {H : Type} : List (DataW H) → Nat
  | [] => 0
  | d :: r => uptoBulk d + uptoBulkAll r
def uptoBulkEntries {H : Type} : List (Lit × DataW H) → Nat
  | [] => 0
  | x :: r => uptoBulkEntry x + uptoBulkEntries r
def uptoBulkEntry {H : Type} : Lit × DataW H → Nat
  | (.string bytes, d) => bytes.length + uptoBulk d + 1
  | (_, d) => uptoBulk d + 1
 end
def uptoSmall : (H : Type) → List (DataW H) → Bool := fun _ ds => decide (uptoBulkAll ds ≤ 1048576)
def OpenSpec.upto (s : _root_.Go.ChangeSpec) : _root_.Go.OpenSpec := { _root_.Go.OpenSpec.ofChange s with cond := some uptoSmall }

/-- 'muntinlaw08.WindBack', WHERE WHAT IT READS IS OF BULK AT MOST 1048576: true; the input reads as it did. -/
def windBackUptoRow : OpenClaim := { program := "ytajholbcpmjhiaagreatdoor", sum := "9de559a1665c3e3e74793b43303e740c827be8ff6278431d0144321b98fa7df2", func := "muntin/muntinlaw08.WindBack", spec := "windBack", inPlace := ["maps.clone"], unfollowed := true, recurses := true, named := ["muntin/inst.fields", "math/bits.deBruijn32tab"], apart := false, laid := [("math/bits.deBruijn32tab", laid_math_bits_deBruijn32tab), ("muntin/inst.fields", laid_muntin_inst_fields)], narrowed := true }
def WindBackUptoSaid : Prop := windBackUptoRow.holds Tryz.pinned (OpenSpec.upto windBackSpec)

/-- 'muntinlaw08.WindTurns', WHERE WHAT IT READS IS OF BULK AT MOST 1048576: true; the input reads as it did. -/
def windTurnsUptoRow : OpenClaim := { program := "ytajholbcpmjhiaagreatdoor", sum := "9de559a1665c3e3e74793b43303e740c827be8ff6278431d0144321b98fa7df2", func := "muntin/muntinlaw08.WindTurns", spec := "windTurns", inPlace := ["maps.clone"], unfollowed := true, recurses := true, named := ["muntin/inst.fields", "math/bits.deBruijn32tab"], apart := false, laid := [("math/bits.deBruijn32tab", laid_math_bits_deBruijn32tab), ("muntin/inst.fields", laid_muntin_inst_fields)], narrowed := true }
def WindTurnsUptoSaid : Prop := windTurnsUptoRow.holds Tryz.pinned (OpenSpec.upto windTurnsSpec)

/-- 'muntinlaw10.SwapWords', WHERE WHAT IT READS IS OF BULK AT MOST 1048576: true; the input reads as it did. -/
def swapWordsUptoRow : OpenClaim := { program := "ytajholbcpmjhiaagreatdoor", sum := "9de559a1665c3e3e74793b43303e740c827be8ff6278431d0144321b98fa7df2", func := "muntin/muntinlaw10.SwapWords", spec := "swapWords", inPlace := ["maps.clone"], unfollowed := true, recurses := true, named := ["muntin/inst.fields", "math/bits.deBruijn32tab"], apart := false, laid := [("math/bits.deBruijn32tab", laid_math_bits_deBruijn32tab), ("muntin/inst.fields", laid_muntin_inst_fields)], narrowed := true }
def SwapWordsUptoSaid : Prop := swapWordsUptoRow.holds Tryz.pinned (OpenSpec.upto swapWordsSpec)

/-- 'muntinlaw10.SwapBack', WHERE WHAT IT READS IS OF BULK AT MOST 1048576: true; the input reads as it did. -/
def swapBackUptoRow : OpenClaim := { program := "ytajholbcpmjhiaagreatdoor", sum := "9de559a1665c3e3e74793b43303e740c827be8ff6278431d0144321b98fa7df2", func := "muntin/muntinlaw10.SwapBack", spec := "swapBack", inPlace := ["maps.clone"], unfollowed := true, recurses := true, named := ["muntin/inst.fields", "math/bits.deBruijn32tab"], apart := false, laid := [("math/bits.deBruijn32tab", laid_math_bits_deBruijn32tab), ("muntin/inst.fields", laid_muntin_inst_fields)], narrowed := true }
def SwapBackUptoSaid : Prop := swapBackUptoRow.holds Tryz.pinned (OpenSpec.upto swapBackSpec)

/-- 'muntinlaw10.SwapTurns', WHERE WHAT IT READS IS OF BULK AT MOST 1048576: true; the input reads as it did. -/
def swapTurnsUptoRow : OpenClaim := { program := "ytajholbcpmjhiaagreatdoor", sum := "9de559a1665c3e3e74793b43303e740c827be8ff6278431d0144321b98fa7df2", func := "muntin/muntinlaw10.SwapTurns", spec := "swapTurns", inPlace := ["maps.clone"], unfollowed := true, recurses := true, named := ["muntin/inst.fields", "math/bits.deBruijn32tab"], apart := false, laid := [("math/bits.deBruijn32tab", laid_math_bits_deBruijn32tab), ("muntin/inst.fields", laid_muntin_inst_fields)], narrowed := true }
def SwapTurnsUptoSaid : Prop := swapTurnsUptoRow.holds Tryz.pinned (OpenSpec.upto swapTurnsSpec)

/-- 'muntinlaw09.TickCounts', WHERE WHAT IT READS IS OF BULK AT MOST 1048576: true; the input reads as it did. -/
def tickCountsUptoRow : OpenClaim := { program := "ytajholbcpmjhiaagreatdoor", sum := "9de559a1665c3e3e74793b43303e740c827be8ff6278431d0144321b98fa7df2", func := "muntin/muntinlaw09.TickCounts", spec := "tickCounts", inPlace := ["maps.clone"], unfollowed := true, recurses := true, named := ["internal/strconv.uint64pow10", "math/bits.deBruijn32tab", "math/bits.deBruijn64tab", "muntin/inst.fields"], apart := false, laid := [("math/bits.deBruijn32tab", laid_math_bits_deBruijn32tab), ("math/bits.deBruijn64tab", laid_math_bits_deBruijn64tab), ("internal/strconv.uint64pow10", laid_internal_strconv_uint64pow10), ("muntin/inst.fields", laid_muntin_inst_fields)], narrowed := true }
def TickCountsUptoSaid : Prop := tickCountsUptoRow.holds Tryz.pinned (OpenSpec.upto tickCountsSpec)

end Rows
end Go.Proofs.YtajholbcpmjhiaaGreatDoor
