/-
  NARROWER THAN 'FOR EVERY INPUT', by the rows' own cells (each row's printed sentence says how): InstEncodes: laid · InstDecodes: laid · InstUnlike: laid · PsrPacks: laid · PsrWindows: laid · PsrCircle: laid · PsrTurns: laid · AsmMoves: laid · AsmPlays: laid · AsmNone: laid.
  DERIVED. THE GIVEN ROWS OF THIS SEAT. 10 by the template 'for every input the law returns true; each argument reads behind the call as it read before'; 0 by the template 'total and deterministic' (their statements: YtilegepenibeoaaDoorTotals.lean).
  GIVEN WITH THE SEED: the statements are not yours to turn. If you find one false, say at which input.
  Laid BY PROGRAM, IN A SANDBOX (cutbox-rows.mjs): the forced cells as the released guide's own fill.sh prints them over the translation f3c31b622ae2db13… (all of the seat's roots in one cut). By AI agents, Wed Nov 11 2026. No macro, syntax, notation, axiom, sorry.
-/
import Derived.Test.YtilegepenibeoaaDoorChecked
import GoSem.Claim
import GoSem.ClaimJoined
import GoSem.ClaimMapViews
import Derived.JoinedTies
import Derived.KernelRfl
namespace Go.Proofs.YtilegepenibeoaaDoor
/- THE CELL 'sum', in the pinned program and in every row, IS THE sha256 OF THE DUMP (.gsa) THAT YtilegepenibeoaaDoorProg.lean LOADS. Nothing in Lean hashes anything: it is a label: what it is worth is what the hold of that sum in a sandbox is worth. -/
noncomputable def Tryd.pinned : Pinned := { name := "ytilegepenibeoaadoor", sum := "f3c31b622ae2db1382585c04707b26f22a79c0af14c3dacbd5b5d11b7aa4b848", checked := Tryd.checked }
namespace Rows
def none {H : Type} : Left H := { results := [], args := [] }

/- WHAT THE LISTED PACKAGE-LEVEL VARIABLES READ AS WHEN THE CALL BEGINS. Each datum BY PROGRAM (the guide's laid-datum.mjs) off the statement by which the dump's own 'gosem.cut.vars' lays the variable. In a bare row this is a premise. The card (YtilegepenibeoaaDoorCards.lean) ties it to the program's text. -/
def laid_muntin_inst_fields {H : Type} : DataW H := .agg [.lit (.int .u8 128), .lit (.int .u8 7), .lit (.int .u8 7), .lit (.int .u8 7), .lit (.int .u8 7), .lit (.int .u8 7), .lit (.int .u8 7), .lit (.int .u8 7), .lit (.int .u8 7), .lit (.int .u8 7), .lit (.int .u8 7), .lit (.int .u8 7), .lit (.int .u8 7), .lit (.int .u8 7), .lit (.int .u8 7), .lit (.int .u8 25), .lit (.int .u8 6), .lit (.int .u8 25), .lit (.int .u8 24), .lit (.int .u8 7), .lit (.int .u8 7), .lit (.int .u8 7), .lit (.int .u8 7), .lit (.int .u8 7), .lit (.int .u8 7), .lit (.int .u8 7), .lit (.int .u8 1), .lit (.int .u8 6), .lit (.int .u8 1), .lit (.int .u8 6), .lit (.int .u8 9), .lit (.int .u8 10), .lit (.int .u8 0), .lit (.int .u8 8), .lit (.int .u8 1), .lit (.int .u8 2), .lit (.int .u8 2), .lit (.int .u8 8)]
def laid_math_bits_deBruijn32tab {H : Type} : DataW H := .agg [.lit (.int .u8 0), .lit (.int .u8 1), .lit (.int .u8 28), .lit (.int .u8 2), .lit (.int .u8 29), .lit (.int .u8 14), .lit (.int .u8 24), .lit (.int .u8 3), .lit (.int .u8 30), .lit (.int .u8 22), .lit (.int .u8 20), .lit (.int .u8 15), .lit (.int .u8 25), .lit (.int .u8 17), .lit (.int .u8 4), .lit (.int .u8 8), .lit (.int .u8 31), .lit (.int .u8 27), .lit (.int .u8 13), .lit (.int .u8 23), .lit (.int .u8 21), .lit (.int .u8 19), .lit (.int .u8 16), .lit (.int .u8 7), .lit (.int .u8 26), .lit (.int .u8 12), .lit (.int .u8 18), .lit (.int .u8 6), .lit (.int .u8 11), .lit (.int .u8 5), .lit (.int .u8 10), .lit (.int .u8 9)]

/-- 'muntinlaw02.InstEncodes': WHATEVER THE INPUT: true; the input reads as it did. -/
def instEncodesSpec : ChangeSpec := { name := "instEncodes", fn := fun _ => fun
  | [d] => { results := [.lit (.bool true)], args := [d] }
  | _ => none }
def instEncodesRow : OpenClaim := { program := "ytilegepenibeoaadoor", sum := "f3c31b622ae2db1382585c04707b26f22a79c0af14c3dacbd5b5d11b7aa4b848", func := "muntin/muntinlaw02.InstEncodes", spec := "instEncodes", unfollowed := true, recurses := true, named := ["muntin/inst.fields"], apart := false, laid := [("muntin/inst.fields", laid_muntin_inst_fields)] }
def InstEncodesSaid : Prop := instEncodesRow.holds Tryd.pinned (OpenSpec.ofChange instEncodesSpec)

/-- ITS FALSE NEIGHBOUR: 'it returns false'. Refute it at one input. -/
def instEncodesWrong : ChangeSpec := { name := "instEncodes", fn := fun _ => fun
  | [d] => { results := [.lit (.bool false)], args := [d] }
  | _ => none }
def InstEncodesWrongFalsely : Prop := instEncodesRow.holds Tryd.pinned (OpenSpec.ofChange instEncodesWrong)

/-- 'muntinlaw02.InstDecodes': WHATEVER THE INPUT: true; the input reads as it did. -/
def instDecodesSpec : ChangeSpec := { name := "instDecodes", fn := fun _ => fun
  | [d] => { results := [.lit (.bool true)], args := [d] }
  | _ => none }
def instDecodesRow : OpenClaim := { program := "ytilegepenibeoaadoor", sum := "f3c31b622ae2db1382585c04707b26f22a79c0af14c3dacbd5b5d11b7aa4b848", func := "muntin/muntinlaw02.InstDecodes", spec := "instDecodes", unfollowed := true, recurses := true, named := ["muntin/inst.fields"], apart := false, laid := [("muntin/inst.fields", laid_muntin_inst_fields)] }
def InstDecodesSaid : Prop := instDecodesRow.holds Tryd.pinned (OpenSpec.ofChange instDecodesSpec)

/-- ITS FALSE NEIGHBOUR: 'it returns false'. Refute it at one input. -/
def instDecodesWrong : ChangeSpec := { name := "instDecodes", fn := fun _ => fun
  | [d] => { results := [.lit (.bool false)], args := [d] }
  | _ => none }
def InstDecodesWrongFalsely : Prop := instDecodesRow.holds Tryd.pinned (OpenSpec.ofChange instDecodesWrong)

/-- 'muntinlaw02.InstUnlike': WHATEVER THE INPUT: true; the input reads as it did. -/
def instUnlikeSpec : ChangeSpec := { name := "instUnlike", fn := fun _ => fun
  | [d1, d2, d3] => { results := [.lit (.bool true)], args := [d1, d2, d3] }
  | _ => none }
def instUnlikeRow : OpenClaim := { program := "ytilegepenibeoaadoor", sum := "f3c31b622ae2db1382585c04707b26f22a79c0af14c3dacbd5b5d11b7aa4b848", func := "muntin/muntinlaw02.InstUnlike", spec := "instUnlike", unfollowed := true, recurses := true, named := ["muntin/inst.fields"], apart := false, laid := [("muntin/inst.fields", laid_muntin_inst_fields)] }
def InstUnlikeSaid : Prop := instUnlikeRow.holds Tryd.pinned (OpenSpec.ofChange instUnlikeSpec)

/-- ITS FALSE NEIGHBOUR: 'it returns false'. Refute it at one input. -/
def instUnlikeWrong : ChangeSpec := { name := "instUnlike", fn := fun _ => fun
  | [d1, d2, d3] => { results := [.lit (.bool false)], args := [d1, d2, d3] }
  | _ => none }
def InstUnlikeWrongFalsely : Prop := instUnlikeRow.holds Tryd.pinned (OpenSpec.ofChange instUnlikeWrong)

/-- 'muntinlaw04.PsrPacks': WHATEVER THE INPUT: true; the input reads as it did. -/
def psrPacksSpec : ChangeSpec := { name := "psrPacks", fn := fun _ => fun
  | [d1, d2, d3] => { results := [.lit (.bool true)], args := [d1, d2, d3] }
  | _ => none }
def psrPacksRow : OpenClaim := { program := "ytilegepenibeoaadoor", sum := "f3c31b622ae2db1382585c04707b26f22a79c0af14c3dacbd5b5d11b7aa4b848", func := "muntin/muntinlaw04.PsrPacks", spec := "psrPacks", unfollowed := true, recurses := true, named := ["math/bits.deBruijn32tab"], apart := false, laid := [("math/bits.deBruijn32tab", laid_math_bits_deBruijn32tab)] }
def PsrPacksSaid : Prop := psrPacksRow.holds Tryd.pinned (OpenSpec.ofChange psrPacksSpec)

/-- ITS FALSE NEIGHBOUR: 'it returns false'. Refute it at one input. -/
def psrPacksWrong : ChangeSpec := { name := "psrPacks", fn := fun _ => fun
  | [d1, d2, d3] => { results := [.lit (.bool false)], args := [d1, d2, d3] }
  | _ => none }
def PsrPacksWrongFalsely : Prop := psrPacksRow.holds Tryd.pinned (OpenSpec.ofChange psrPacksWrong)

/-- 'muntinlaw04.PsrWindows': WHATEVER THE INPUT: true; the input reads as it did. -/
def psrWindowsSpec : ChangeSpec := { name := "psrWindows", fn := fun _ => fun
  | [d1, d2, d3] => { results := [.lit (.bool true)], args := [d1, d2, d3] }
  | _ => none }
def psrWindowsRow : OpenClaim := { program := "ytilegepenibeoaadoor", sum := "f3c31b622ae2db1382585c04707b26f22a79c0af14c3dacbd5b5d11b7aa4b848", func := "muntin/muntinlaw04.PsrWindows", spec := "psrWindows", unfollowed := true, recurses := true, named := ["math/bits.deBruijn32tab"], apart := false, laid := [("math/bits.deBruijn32tab", laid_math_bits_deBruijn32tab)] }
def PsrWindowsSaid : Prop := psrWindowsRow.holds Tryd.pinned (OpenSpec.ofChange psrWindowsSpec)

/-- ITS FALSE NEIGHBOUR: 'it returns false'. Refute it at one input. -/
def psrWindowsWrong : ChangeSpec := { name := "psrWindows", fn := fun _ => fun
  | [d1, d2, d3] => { results := [.lit (.bool false)], args := [d1, d2, d3] }
  | _ => none }
def PsrWindowsWrongFalsely : Prop := psrWindowsRow.holds Tryd.pinned (OpenSpec.ofChange psrWindowsWrong)

/-- 'muntinlaw04.PsrCircle': WHATEVER THE INPUT: true; the input reads as it did. -/
def psrCircleSpec : ChangeSpec := { name := "psrCircle", fn := fun _ => fun
  | [d1, d2, d3] => { results := [.lit (.bool true)], args := [d1, d2, d3] }
  | _ => none }
def psrCircleRow : OpenClaim := { program := "ytilegepenibeoaadoor", sum := "f3c31b622ae2db1382585c04707b26f22a79c0af14c3dacbd5b5d11b7aa4b848", func := "muntin/muntinlaw04.PsrCircle", spec := "psrCircle", unfollowed := true, recurses := true, named := ["math/bits.deBruijn32tab"], apart := false, laid := [("math/bits.deBruijn32tab", laid_math_bits_deBruijn32tab)] }
def PsrCircleSaid : Prop := psrCircleRow.holds Tryd.pinned (OpenSpec.ofChange psrCircleSpec)

/-- ITS FALSE NEIGHBOUR: 'it returns false'. Refute it at one input. -/
def psrCircleWrong : ChangeSpec := { name := "psrCircle", fn := fun _ => fun
  | [d1, d2, d3] => { results := [.lit (.bool false)], args := [d1, d2, d3] }
  | _ => none }
def PsrCircleWrongFalsely : Prop := psrCircleRow.holds Tryd.pinned (OpenSpec.ofChange psrCircleWrong)

/-- 'muntinlaw04.PsrTurns': WHATEVER THE INPUT: true; the input reads as it did. -/
def psrTurnsSpec : ChangeSpec := { name := "psrTurns", fn := fun _ => fun
  | [d1, d2, d3] => { results := [.lit (.bool true)], args := [d1, d2, d3] }
  | _ => none }
def psrTurnsRow : OpenClaim := { program := "ytilegepenibeoaadoor", sum := "f3c31b622ae2db1382585c04707b26f22a79c0af14c3dacbd5b5d11b7aa4b848", func := "muntin/muntinlaw04.PsrTurns", spec := "psrTurns", unfollowed := true, recurses := true, named := ["math/bits.deBruijn32tab"], apart := false, laid := [("math/bits.deBruijn32tab", laid_math_bits_deBruijn32tab)] }
def PsrTurnsSaid : Prop := psrTurnsRow.holds Tryd.pinned (OpenSpec.ofChange psrTurnsSpec)

/-- ITS FALSE NEIGHBOUR: 'it returns false'. Refute it at one input. -/
def psrTurnsWrong : ChangeSpec := { name := "psrTurns", fn := fun _ => fun
  | [d1, d2, d3] => { results := [.lit (.bool false)], args := [d1, d2, d3] }
  | _ => none }
def PsrTurnsWrongFalsely : Prop := psrTurnsRow.holds Tryd.pinned (OpenSpec.ofChange psrTurnsWrong)

/-- 'muntinlaw07.AsmMoves': WHATEVER THE INPUT: true; the input reads as it did. -/
def asmMovesSpec : ChangeSpec := { name := "asmMoves", fn := fun _ => fun
  | [d1, d2] => { results := [.lit (.bool true)], args := [d1, d2] }
  | _ => none }
def asmMovesRow : OpenClaim := { program := "ytilegepenibeoaadoor", sum := "f3c31b622ae2db1382585c04707b26f22a79c0af14c3dacbd5b5d11b7aa4b848", func := "muntin/muntinlaw07.AsmMoves", spec := "asmMoves", unfollowed := true, recurses := true, named := ["muntin/inst.fields"], apart := false, laid := [("muntin/inst.fields", laid_muntin_inst_fields)] }
def AsmMovesSaid : Prop := asmMovesRow.holds Tryd.pinned (OpenSpec.ofChange asmMovesSpec)

/-- ITS FALSE NEIGHBOUR: 'it returns false'. Refute it at one input. -/
def asmMovesWrong : ChangeSpec := { name := "asmMoves", fn := fun _ => fun
  | [d1, d2] => { results := [.lit (.bool false)], args := [d1, d2] }
  | _ => none }
def AsmMovesWrongFalsely : Prop := asmMovesRow.holds Tryd.pinned (OpenSpec.ofChange asmMovesWrong)

/-- 'muntinlaw07.AsmPlays': WHATEVER THE INPUT: true; the input reads as it did. -/
def asmPlaysSpec : ChangeSpec := { name := "asmPlays", fn := fun _ => fun
  | [d] => { results := [.lit (.bool true)], args := [d] }
  | _ => none }
def asmPlaysRow : OpenClaim := { program := "ytilegepenibeoaadoor", sum := "f3c31b622ae2db1382585c04707b26f22a79c0af14c3dacbd5b5d11b7aa4b848", func := "muntin/muntinlaw07.AsmPlays", spec := "asmPlays", inPlace := ["maps.clone"], unfollowed := true, recurses := true, named := ["muntin/inst.fields"], apart := false, laid := [("muntin/inst.fields", laid_muntin_inst_fields)] }
def AsmPlaysSaid : Prop := asmPlaysRow.holds Tryd.pinned (OpenSpec.ofChange asmPlaysSpec)

/-- ITS FALSE NEIGHBOUR: 'it returns false'. Refute it at one input. -/
def asmPlaysWrong : ChangeSpec := { name := "asmPlays", fn := fun _ => fun
  | [d] => { results := [.lit (.bool false)], args := [d] }
  | _ => none }
def AsmPlaysWrongFalsely : Prop := asmPlaysRow.holds Tryd.pinned (OpenSpec.ofChange asmPlaysWrong)

/-- 'muntinlaw07.AsmNone': WHATEVER THE INPUT: true; the input reads as it did. -/
def asmNoneSpec : ChangeSpec := { name := "asmNone", fn := fun _ => fun
  | [d] => { results := [.lit (.bool true)], args := [d] }
  | _ => none }
def asmNoneRow : OpenClaim := { program := "ytilegepenibeoaadoor", sum := "f3c31b622ae2db1382585c04707b26f22a79c0af14c3dacbd5b5d11b7aa4b848", func := "muntin/muntinlaw07.AsmNone", spec := "asmNone", inPlace := ["maps.clone"], unfollowed := true, recurses := true, named := ["muntin/inst.fields"], apart := false, laid := [("muntin/inst.fields", laid_muntin_inst_fields)] }
def AsmNoneSaid : Prop := asmNoneRow.holds Tryd.pinned (OpenSpec.ofChange asmNoneSpec)

/-- ITS FALSE NEIGHBOUR: 'it returns false'. Refute it at one input. -/
def asmNoneWrong : ChangeSpec := { name := "asmNone", fn := fun _ => fun
  | [d] => { results := [.lit (.bool false)], args := [d] }
  | _ => none }
def AsmNoneWrongFalsely : Prop := asmNoneRow.holds Tryd.pinned (OpenSpec.ofChange asmNoneWrong)

/- THE SECOND FORM. 'bulk': how many values and letters a reading holds, each counted each time it is reached (what is shared counts as often as it is met; a slice's spare places count too). A statement '..UptoSaid' is the law's where the arguments, and the package variables that the reading takes, are together of bulk at most 1048576: NARROWER than '..Said'. Prove '..Said' where nothing that the law and all that it calls make is longer than what came in: it says more and counts as full. Else prove '..UptoSaid'. A law counts once. -/
mutual
def uptoBulk {H : Type} : DataW H → Nat
  | .lit (.string bytes) => bytes.length + 1
  | .lit _ => 1
  | .nil => 1
  | .ptr d => uptoBulk d + 1
  | .slice elems spare => uptoBulkAll elems + uptoBulkAll spare + 1
  | .agg parts => uptoBulkAll parts + 1
  | .iface _ d => uptoBulk d + 1
  | .map entries => uptoBulkEntries entries + 1
  | .held _ => 1
def uptoBulkAll {H : Type} : List (DataW H) → Nat
  | [] => 0
  | d :: r => uptoBulk d + uptoBulkAll r
def uptoBulkEntries {H : Type} : List (Lit × DataW H) → Nat
  | [] => 0
  | x :: r => uptoBulkEntry x + uptoBulkEntries r
def uptoBulkEntry {H : Type} : Lit × DataW H → Nat
  | (.string bytes, d) => bytes.length + uptoBulk d + 1
  | (_, d) => uptoBulk d + 1
 end
def uptoSmall : (H : Type) → List (DataW H) → Bool := fun _ ds => decide (uptoBulkAll ds ≤ 1048576)
def OpenSpec.upto (s : _root_.Go.ChangeSpec) : _root_.Go.OpenSpec := { _root_.Go.OpenSpec.ofChange s with cond := some uptoSmall }

/-- 'muntinlaw02.InstEncodes', WHERE WHAT IT READS IS OF BULK AT MOST 1048576: true; the input reads as it did. -/
def instEncodesUptoRow : OpenClaim := { program := "ytilegepenibeoaadoor", sum := "f3c31b622ae2db1382585c04707b26f22a79c0af14c3dacbd5b5d11b7aa4b848", func := "muntin/muntinlaw02.InstEncodes", spec := "instEncodes", unfollowed := true, recurses := true, named := ["muntin/inst.fields"], apart := false, laid := [("muntin/inst.fields", laid_muntin_inst_fields)], narrowed := true }
def InstEncodesUptoSaid : Prop := instEncodesUptoRow.holds Tryd.pinned (OpenSpec.upto instEncodesSpec)

/-- 'muntinlaw02.InstDecodes', WHERE WHAT IT READS IS OF BULK AT MOST 1048576: true; the input reads as it did. -/
def instDecodesUptoRow : OpenClaim := { program := "ytilegepenibeoaadoor", sum := "f3c31b622ae2db1382585c04707b26f22a79c0af14c3dacbd5b5d11b7aa4b848", func := "muntin/muntinlaw02.InstDecodes", spec := "instDecodes", unfollowed := true, recurses := true, named := ["muntin/inst.fields"], apart := false, laid := [("muntin/inst.fields", laid_muntin_inst_fields)], narrowed := true }
def InstDecodesUptoSaid : Prop := instDecodesUptoRow.holds Tryd.pinned (OpenSpec.upto instDecodesSpec)

/-- 'muntinlaw02.InstUnlike', WHERE WHAT IT READS IS OF BULK AT MOST 1048576: true; the input reads as it did. -/
def instUnlikeUptoRow : OpenClaim := { program := "ytilegepenibeoaadoor", sum := "f3c31b622ae2db1382585c04707b26f22a79c0af14c3dacbd5b5d11b7aa4b848", func := "muntin/muntinlaw02.InstUnlike", spec := "instUnlike", unfollowed := true, recurses := true, named := ["muntin/inst.fields"], apart := false, laid := [("muntin/inst.fields", laid_muntin_inst_fields)], narrowed := true }
def InstUnlikeUptoSaid : Prop := instUnlikeUptoRow.holds Tryd.pinned (OpenSpec.upto instUnlikeSpec)

/-- 'muntinlaw04.PsrPacks', WHERE WHAT IT READS IS OF BULK AT MOST 1048576: true; the input reads as it did. -/
def psrPacksUptoRow : OpenClaim := { program := "ytilegepenibeoaadoor", sum := "f3c31b622ae2db1382585c04707b26f22a79c0af14c3dacbd5b5d11b7aa4b848", func := "muntin/muntinlaw04.PsrPacks", spec := "psrPacks", unfollowed := true, recurses := true, named := ["math/bits.deBruijn32tab"], apart := false, laid := [("math/bits.deBruijn32tab", laid_math_bits_deBruijn32tab)], narrowed := true }
def PsrPacksUptoSaid : Prop := psrPacksUptoRow.holds Tryd.pinned (OpenSpec.upto psrPacksSpec)

/-- 'muntinlaw04.PsrWindows', WHERE WHAT IT READS IS OF BULK AT MOST 1048576: true; the input reads as it did. -/
def psrWindowsUptoRow : OpenClaim := { program := "ytilegepenibeoaadoor", sum := "f3c31b622ae2db1382585c04707b26f22a79c0af14c3dacbd5b5d11b7aa4b848", func := "muntin/muntinlaw04.PsrWindows", spec := "psrWindows", unfollowed := true, recurses := true, named := ["math/bits.deBruijn32tab"], apart := false, laid := [("math/bits.deBruijn32tab", laid_math_bits_deBruijn32tab)], narrowed := true }
def PsrWindowsUptoSaid : Prop := psrWindowsUptoRow.holds Tryd.pinned (OpenSpec.upto psrWindowsSpec)

/-- 'muntinlaw04.PsrCircle', WHERE WHAT IT READS IS OF BULK AT MOST 1048576: true; the input reads as it did. -/
def psrCircleUptoRow : OpenClaim := { program := "ytilegepenibeoaadoor", sum := "f3c31b622ae2db1382585c04707b26f22a79c0af14c3dacbd5b5d11b7aa4b848", func := "muntin/muntinlaw04.PsrCircle", spec := "psrCircle", unfollowed := true, recurses := true, named := ["math/bits.deBruijn32tab"], apart := false, laid := [("math/bits.deBruijn32tab", laid_math_bits_deBruijn32tab)], narrowed := true }
def PsrCircleUptoSaid : Prop := psrCircleUptoRow.holds Tryd.pinned (OpenSpec.upto psrCircleSpec)

/-- 'muntinlaw04.PsrTurns', WHERE WHAT IT READS IS OF BULK AT MOST 1048576: true; the input reads as it did. -/
def psrTurnsUptoRow : OpenClaim := { program := "ytilegepenibeoaadoor", sum := "f3c31b622ae2db1382585c04707b26f22a79c0af14c3dacbd5b5d11b7aa4b848", func := "muntin/muntinlaw04.PsrTurns", spec := "psrTurns", unfollowed := true, recurses := true, named := ["math/bits.deBruijn32tab"], apart := false, laid := [("math/bits.deBruijn32tab", laid_math_bits_deBruijn32tab)], narrowed := true }
def PsrTurnsUptoSaid : Prop := psrTurnsUptoRow.holds Tryd.pinned (OpenSpec.upto psrTurnsSpec)

/-- 'muntinlaw07.AsmMoves', WHERE WHAT IT READS IS OF BULK AT MOST 1048576: true; the input reads as it did. -/
def asmMovesUptoRow : OpenClaim := { program := "ytilegepenibeoaadoor", sum := "f3c31b622ae2db1382585c04707b26f22a79c0af14c3dacbd5b5d11b7aa4b848", func := "muntin/muntinlaw07.AsmMoves", spec := "asmMoves", unfollowed := true, recurses := true, named := ["muntin/inst.fields"], apart := false, laid := [("muntin/inst.fields", laid_muntin_inst_fields)], narrowed := true }
def AsmMovesUptoSaid : Prop := asmMovesUptoRow.holds Tryd.pinned (OpenSpec.upto asmMovesSpec)

/-- 'muntinlaw07.AsmPlays', WHERE WHAT IT READS IS OF BULK AT MOST 1048576: true; the input reads as it did. -/
def asmPlaysUptoRow : OpenClaim := { program := "ytilegepenibeoaadoor", sum := "f3c31b622ae2db1382585c04707b26f22a79c0af14c3dacbd5b5d11b7aa4b848", func := "muntin/muntinlaw07.AsmPlays", spec := "asmPlays", inPlace := ["maps.clone"], unfollowed := true, recurses := true, named := ["muntin/inst.fields"], apart := false, laid := [("muntin/inst.fields", laid_muntin_inst_fields)], narrowed := true }
def AsmPlaysUptoSaid : Prop := asmPlaysUptoRow.holds Tryd.pinned (OpenSpec.upto asmPlaysSpec)

/-- 'muntinlaw07.AsmNone', WHERE WHAT IT READS IS OF BULK AT MOST 1048576: true; the input reads as it did. -/
def asmNoneUptoRow : OpenClaim := { program := "ytilegepenibeoaadoor", sum := "f3c31b622ae2db1382585c04707b26f22a79c0af14c3dacbd5b5d11b7aa4b848", func := "muntin/muntinlaw07.AsmNone", spec := "asmNone", inPlace := ["maps.clone"], unfollowed := true, recurses := true, named := ["muntin/inst.fields"], apart := false, laid := [("muntin/inst.fields", laid_muntin_inst_fields)], narrowed := true }
def AsmNoneUptoSaid : Prop := asmNoneUptoRow.holds Tryd.pinned (OpenSpec.upto asmNoneSpec)

end Rows
end Go.Proofs.YtilegepenibeoaaDoor
