/-
  No cell of these rows narrows 'for every input' (looked for: loops, veiled, ifaces, maps, wideKeys, modest, calm, conditions, laid).
  DERIVED. THE GIVEN ROWS OF THIS SEAT. 11 by the template 'for every input the law returns true; each argument reads behind the call as it read before'; 0 by the template 'total and deterministic' (their statements: YtkokdcbnnihkaaaTotals.lean).
  GIVEN WITH THE SEED: the statements are not yours to turn. If you find one false, say at which input.
  Laid BY PROGRAM, IN A SANDBOX (cutbox-rows.mjs): the forced cells as the released guide's own fill.sh prints them over the translation 6ebc596ddb1269e4… (all of the seat's roots in one cut). By AI agents, Wed Nov 11 2026. No macro, syntax, notation, axiom, sorry.
-/
import Derived.Test.YtkokdcbnnihkaaaChecked
import GoSem.Claim
import GoSem.ClaimJoined
import GoSem.ClaimMapViews
import Derived.JoinedTies
import Derived.KernelRfl
namespace Go.Proofs.Ytkokdcbnnihkaaa
/- THE CELL 'sum', in the pinned program and in every row, IS THE sha256 OF THE DUMP (.gsa) THAT YtkokdcbnnihkaaaProg.lean LOADS. Nothing in Lean hashes anything: it is a label: what it is worth is what the hold of that sum in a sandbox is worth. -/
noncomputable def Try.pinned : Pinned := { name := "ytkokdcbnnihkaaa", sum := "6ebc596ddb1269e42305c20ff733ddae373d117d1fd8d842023cfaef03167435", checked := Try.checked }
namespace Rows
def none {H : Type} : Left H := { results := [], args := [] }

/-- 'muntinlaw05.MemKeeps': WHATEVER THE INPUT: true; the input reads as it did. -/
def memKeepsSpec : ChangeSpec := { name := "memKeeps", fn := fun _ => fun
  | [d1, d2] => { results := [.lit (.bool true)], args := [d1, d2] }
  | _ => none }
def memKeepsRow : OpenClaim := { program := "ytkokdcbnnihkaaa", sum := "6ebc596ddb1269e42305c20ff733ddae373d117d1fd8d842023cfaef03167435", func := "muntin/muntinlaw05.MemKeeps", spec := "memKeeps", apart := false }
def MemKeepsSaid : Prop := memKeepsRow.holds Try.pinned (OpenSpec.ofChange memKeepsSpec)

/-- ITS FALSE NEIGHBOUR: 'it returns false'. Refute it at one input. -/
def memKeepsWrong : ChangeSpec := { name := "memKeeps", fn := fun _ => fun
  | [d1, d2] => { results := [.lit (.bool false)], args := [d1, d2] }
  | _ => none }
def MemKeepsWrongFalsely : Prop := memKeepsRow.holds Try.pinned (OpenSpec.ofChange memKeepsWrong)

/-- 'muntinlaw05.MemWords': WHATEVER THE INPUT: true; the input reads as it did. -/
def memWordsSpec : ChangeSpec := { name := "memWords", fn := fun _ => fun
  | [d1, d2, d3] => { results := [.lit (.bool true)], args := [d1, d2, d3] }
  | _ => none }
def memWordsRow : OpenClaim := { program := "ytkokdcbnnihkaaa", sum := "6ebc596ddb1269e42305c20ff733ddae373d117d1fd8d842023cfaef03167435", func := "muntin/muntinlaw05.MemWords", spec := "memWords", apart := false }
def MemWordsSaid : Prop := memWordsRow.holds Try.pinned (OpenSpec.ofChange memWordsSpec)

/-- ITS FALSE NEIGHBOUR: 'it returns false'. Refute it at one input. -/
def memWordsWrong : ChangeSpec := { name := "memWords", fn := fun _ => fun
  | [d1, d2, d3] => { results := [.lit (.bool false)], args := [d1, d2, d3] }
  | _ => none }
def MemWordsWrongFalsely : Prop := memWordsRow.holds Try.pinned (OpenSpec.ofChange memWordsWrong)

/-- 'muntinlaw05.MemApart': WHATEVER THE INPUT: true; the input reads as it did. -/
def memApartSpec : ChangeSpec := { name := "memApart", fn := fun _ => fun
  | [d1, d2, d3] => { results := [.lit (.bool true)], args := [d1, d2, d3] }
  | _ => none }
def memApartRow : OpenClaim := { program := "ytkokdcbnnihkaaa", sum := "6ebc596ddb1269e42305c20ff733ddae373d117d1fd8d842023cfaef03167435", func := "muntin/muntinlaw05.MemApart", spec := "memApart", apart := false }
def MemApartSaid : Prop := memApartRow.holds Try.pinned (OpenSpec.ofChange memApartSpec)

/-- ITS FALSE NEIGHBOUR: 'it returns false'. Refute it at one input. -/
def memApartWrong : ChangeSpec := { name := "memApart", fn := fun _ => fun
  | [d1, d2, d3] => { results := [.lit (.bool false)], args := [d1, d2, d3] }
  | _ => none }
def MemApartWrongFalsely : Prop := memApartRow.holds Try.pinned (OpenSpec.ofChange memApartWrong)

/-- 'muntinlaw01.WordDoes': WHATEVER THE INPUT: true; the input reads as it did. -/
def wordDoesSpec : ChangeSpec := { name := "wordDoes", fn := fun _ => fun
  | [d1, d2, d3] => { results := [.lit (.bool true)], args := [d1, d2, d3] }
  | _ => none }
def wordDoesRow : OpenClaim := { program := "ytkokdcbnnihkaaa", sum := "6ebc596ddb1269e42305c20ff733ddae373d117d1fd8d842023cfaef03167435", func := "muntin/muntinlaw01.WordDoes", spec := "wordDoes", unfollowed := true, recurses := true, apart := false }
def WordDoesSaid : Prop := wordDoesRow.holds Try.pinned (OpenSpec.ofChange wordDoesSpec)

/-- ITS FALSE NEIGHBOUR: 'it returns false'. Refute it at one input. -/
def wordDoesWrong : ChangeSpec := { name := "wordDoes", fn := fun _ => fun
  | [d1, d2, d3] => { results := [.lit (.bool false)], args := [d1, d2, d3] }
  | _ => none }
def WordDoesWrongFalsely : Prop := wordDoesRow.holds Try.pinned (OpenSpec.ofChange wordDoesWrong)

/-- 'muntinlaw01.WordFlags': WHATEVER THE INPUT: true; the input reads as it did. -/
def wordFlagsSpec : ChangeSpec := { name := "wordFlags", fn := fun _ => fun
  | [d1, d2, d3] => { results := [.lit (.bool true)], args := [d1, d2, d3] }
  | _ => none }
def wordFlagsRow : OpenClaim := { program := "ytkokdcbnnihkaaa", sum := "6ebc596ddb1269e42305c20ff733ddae373d117d1fd8d842023cfaef03167435", func := "muntin/muntinlaw01.WordFlags", spec := "wordFlags", unfollowed := true, recurses := true, apart := false }
def WordFlagsSaid : Prop := wordFlagsRow.holds Try.pinned (OpenSpec.ofChange wordFlagsSpec)

/-- ITS FALSE NEIGHBOUR: 'it returns false'. Refute it at one input. -/
def wordFlagsWrong : ChangeSpec := { name := "wordFlags", fn := fun _ => fun
  | [d1, d2, d3] => { results := [.lit (.bool false)], args := [d1, d2, d3] }
  | _ => none }
def WordFlagsWrongFalsely : Prop := wordFlagsRow.holds Try.pinned (OpenSpec.ofChange wordFlagsWrong)

/-- 'muntinlaw01.WordConds': WHATEVER THE INPUT: true; the input reads as it did. -/
def wordCondsSpec : ChangeSpec := { name := "wordConds", fn := fun _ => fun
  | [d1, d2] => { results := [.lit (.bool true)], args := [d1, d2] }
  | _ => none }
def wordCondsRow : OpenClaim := { program := "ytkokdcbnnihkaaa", sum := "6ebc596ddb1269e42305c20ff733ddae373d117d1fd8d842023cfaef03167435", func := "muntin/muntinlaw01.WordConds", spec := "wordConds", unfollowed := true, recurses := true, apart := false }
def WordCondsSaid : Prop := wordCondsRow.holds Try.pinned (OpenSpec.ofChange wordCondsSpec)

/-- ITS FALSE NEIGHBOUR: 'it returns false'. Refute it at one input. -/
def wordCondsWrong : ChangeSpec := { name := "wordConds", fn := fun _ => fun
  | [d1, d2] => { results := [.lit (.bool false)], args := [d1, d2] }
  | _ => none }
def WordCondsWrongFalsely : Prop := wordCondsRow.holds Try.pinned (OpenSpec.ofChange wordCondsWrong)

/-- 'muntinlaw01.WordBack': WHATEVER THE INPUT: true; the input reads as it did. -/
def wordBackSpec : ChangeSpec := { name := "wordBack", fn := fun _ => fun
  | [d1, d2] => { results := [.lit (.bool true)], args := [d1, d2] }
  | _ => none }
def wordBackRow : OpenClaim := { program := "ytkokdcbnnihkaaa", sum := "6ebc596ddb1269e42305c20ff733ddae373d117d1fd8d842023cfaef03167435", func := "muntin/muntinlaw01.WordBack", spec := "wordBack", unfollowed := true, recurses := true, apart := false }
def WordBackSaid : Prop := wordBackRow.holds Try.pinned (OpenSpec.ofChange wordBackSpec)

/-- ITS FALSE NEIGHBOUR: 'it returns false'. Refute it at one input. -/
def wordBackWrong : ChangeSpec := { name := "wordBack", fn := fun _ => fun
  | [d1, d2] => { results := [.lit (.bool false)], args := [d1, d2] }
  | _ => none }
def WordBackWrongFalsely : Prop := wordBackRow.holds Try.pinned (OpenSpec.ofChange wordBackWrong)

/-- 'muntinlaw01.WordShifts': WHATEVER THE INPUT: true; the input reads as it did. -/
def wordShiftsSpec : ChangeSpec := { name := "wordShifts", fn := fun _ => fun
  | [d1, d2] => { results := [.lit (.bool true)], args := [d1, d2] }
  | _ => none }
def wordShiftsRow : OpenClaim := { program := "ytkokdcbnnihkaaa", sum := "6ebc596ddb1269e42305c20ff733ddae373d117d1fd8d842023cfaef03167435", func := "muntin/muntinlaw01.WordShifts", spec := "wordShifts", unfollowed := true, recurses := true, apart := false }
def WordShiftsSaid : Prop := wordShiftsRow.holds Try.pinned (OpenSpec.ofChange wordShiftsSpec)

/-- ITS FALSE NEIGHBOUR: 'it returns false'. Refute it at one input. -/
def wordShiftsWrong : ChangeSpec := { name := "wordShifts", fn := fun _ => fun
  | [d1, d2] => { results := [.lit (.bool false)], args := [d1, d2] }
  | _ => none }
def WordShiftsWrongFalsely : Prop := wordShiftsRow.holds Try.pinned (OpenSpec.ofChange wordShiftsWrong)

/-- 'muntinlaw01.WordAround': WHATEVER THE INPUT: true; the input reads as it did. -/
def wordAroundSpec : ChangeSpec := { name := "wordAround", fn := fun _ => fun
  | [d1, d2, d3] => { results := [.lit (.bool true)], args := [d1, d2, d3] }
  | _ => none }
def wordAroundRow : OpenClaim := { program := "ytkokdcbnnihkaaa", sum := "6ebc596ddb1269e42305c20ff733ddae373d117d1fd8d842023cfaef03167435", func := "muntin/muntinlaw01.WordAround", spec := "wordAround", unfollowed := true, recurses := true, apart := false }
def WordAroundSaid : Prop := wordAroundRow.holds Try.pinned (OpenSpec.ofChange wordAroundSpec)

/-- ITS FALSE NEIGHBOUR: 'it returns false'. Refute it at one input. -/
def wordAroundWrong : ChangeSpec := { name := "wordAround", fn := fun _ => fun
  | [d1, d2, d3] => { results := [.lit (.bool false)], args := [d1, d2, d3] }
  | _ => none }
def WordAroundWrongFalsely : Prop := wordAroundRow.holds Try.pinned (OpenSpec.ofChange wordAroundWrong)

/-- 'muntinlaw05.MemPlays': WHATEVER THE INPUT: true; the input reads as it did. -/
def memPlaysSpec : ChangeSpec := { name := "memPlays", fn := fun _ => fun
  | [d1, d2] => { results := [.lit (.bool true)], args := [d1, d2] }
  | _ => none }
def memPlaysRow : OpenClaim := { program := "ytkokdcbnnihkaaa", sum := "6ebc596ddb1269e42305c20ff733ddae373d117d1fd8d842023cfaef03167435", func := "muntin/muntinlaw05.MemPlays", spec := "memPlays", apart := false }
def MemPlaysSaid : Prop := memPlaysRow.holds Try.pinned (OpenSpec.ofChange memPlaysSpec)

/-- ITS FALSE NEIGHBOUR: 'it returns false'. Refute it at one input. -/
def memPlaysWrong : ChangeSpec := { name := "memPlays", fn := fun _ => fun
  | [d1, d2] => { results := [.lit (.bool false)], args := [d1, d2] }
  | _ => none }
def MemPlaysWrongFalsely : Prop := memPlaysRow.holds Try.pinned (OpenSpec.ofChange memPlaysWrong)

/-- 'muntinlaw05.MemNone': WHATEVER THE INPUT: true; the input reads as it did. -/
def memNoneSpec : ChangeSpec := { name := "memNone", fn := fun _ => fun
  | [d] => { results := [.lit (.bool true)], args := [d] }
  | _ => none }
def memNoneRow : OpenClaim := { program := "ytkokdcbnnihkaaa", sum := "6ebc596ddb1269e42305c20ff733ddae373d117d1fd8d842023cfaef03167435", func := "muntin/muntinlaw05.MemNone", spec := "memNone", apart := false }
def MemNoneSaid : Prop := memNoneRow.holds Try.pinned (OpenSpec.ofChange memNoneSpec)

/-- ITS FALSE NEIGHBOUR: 'it returns false'. Refute it at one input. -/
def memNoneWrong : ChangeSpec := { name := "memNone", fn := fun _ => fun
  | [d] => { results := [.lit (.bool false)], args := [d] }
  | _ => none }
def MemNoneWrongFalsely : Prop := memNoneRow.holds Try.pinned (OpenSpec.ofChange memNoneWrong)

/- THE SECOND FORM. 'bulk': how many values and letters a reading holds, each counted each time it is reached (what is shared counts as often as it is met; a slice's spare places count too). A statement '..UptoSaid' is the law's where the arguments, and the package variables that the reading takes, are together of bulk at most 1048576: NARROWER than '..Said'. Prove '..Said' where nothing that the law and all that it calls make is longer than what came in: it says more and counts as full. Else prove '..UptoSaid'. A law counts once. -/
mutual
def uptoBulk {H : Type} : DataW H → Nat
  | .lit (.string bytes) => bytes.length + 1
  | .lit _ => 1
  | .nil => 1
  | .ptr d => uptoBulk d + 1
  | .slice elems spare => uptoBulkAll elems + uptoBulkAll spare + 1
  | .agg parts => uptoBulkAll parts + 1
  | .iface _ d => uptoBulk d + 1
  | .map entries => uptoBulkEntries entries + 1
  | .held _ => 1
def uptoBulkAll {H : Type} : List (DataW H) → Nat
  | [] => 0
  | d :: r => uptoBulk d + uptoBulkAll r
def uptoBulkEntries {H : Type} : List (Lit × DataW H) → Nat
  | [] => 0
  | x :: r => uptoBulkEntry x + uptoBulkEntries r
def uptoBulkEntry {H : Type} : Lit × DataW H → Nat
  | (.string bytes, d) => bytes.length + uptoBulk d + 1
  | (_, d) => uptoBulk d + 1
 end
def uptoSmall : (H : Type) → List (DataW H) → Bool := fun _ ds => decide (uptoBulkAll ds ≤ 1048576)
def OpenSpec.upto (s : _root_.Go.ChangeSpec) : _root_.Go.OpenSpec := { _root_.Go.OpenSpec.ofChange s with cond := some uptoSmall }

/-- 'muntinlaw05.MemKeeps', WHERE WHAT IT READS IS OF BULK AT MOST 1048576: true; the input reads as it did. -/
def memKeepsUptoRow : OpenClaim := { program := "ytkokdcbnnihkaaa", sum := "6ebc596ddb1269e42305c20ff733ddae373d117d1fd8d842023cfaef03167435", func := "muntin/muntinlaw05.MemKeeps", spec := "memKeeps", apart := false, narrowed := true }
def MemKeepsUptoSaid : Prop := memKeepsUptoRow.holds Try.pinned (OpenSpec.upto memKeepsSpec)

/-- 'muntinlaw05.MemWords', WHERE WHAT IT READS IS OF BULK AT MOST 1048576: true; the input reads as it did. -/
def memWordsUptoRow : OpenClaim := { program := "ytkokdcbnnihkaaa", sum := "6ebc596ddb1269e42305c20ff733ddae373d117d1fd8d842023cfaef03167435", func := "muntin/muntinlaw05.MemWords", spec := "memWords", apart := false, narrowed := true }
def MemWordsUptoSaid : Prop := memWordsUptoRow.holds Try.pinned (OpenSpec.upto memWordsSpec)

/-- 'muntinlaw05.MemApart', WHERE WHAT IT READS IS OF BULK AT MOST 1048576: true; the input reads as it did. -/
def memApartUptoRow : OpenClaim := { program := "ytkokdcbnnihkaaa", sum := "6ebc596ddb1269e42305c20ff733ddae373d117d1fd8d842023cfaef03167435", func := "muntin/muntinlaw05.MemApart", spec := "memApart", apart := false, narrowed := true }
def MemApartUptoSaid : Prop := memApartUptoRow.holds Try.pinned (OpenSpec.upto memApartSpec)

/-- 'muntinlaw01.WordDoes', WHERE WHAT IT READS IS OF BULK AT MOST 1048576: true; the input reads as it did. -/
def wordDoesUptoRow : OpenClaim := { program := "ytkokdcbnnihkaaa", sum := "6ebc596ddb1269e42305c20ff733ddae373d117d1fd8d842023cfaef03167435", func := "muntin/muntinlaw01.WordDoes", spec := "wordDoes", unfollowed := true, recurses := true, apart := false, narrowed := true }
def WordDoesUptoSaid : Prop := wordDoesUptoRow.holds Try.pinned (OpenSpec.upto wordDoesSpec)

/-- 'muntinlaw01.WordFlags', WHERE WHAT IT READS IS OF BULK AT MOST 1048576: true; the input reads as it did. -/
def wordFlagsUptoRow : OpenClaim := { program := "ytkokdcbnnihkaaa", sum := "6ebc596ddb1269e42305c20ff733ddae373d117d1fd8d842023cfaef03167435", func := "muntin/muntinlaw01.WordFlags", spec := "wordFlags", unfollowed := true, recurses := true, apart := false, narrowed := true }
def WordFlagsUptoSaid : Prop := wordFlagsUptoRow.holds Try.pinned (OpenSpec.upto wordFlagsSpec)

/-- 'muntinlaw01.WordConds', WHERE WHAT IT READS IS OF BULK AT MOST 1048576: true; the input reads as it did. -/
def wordCondsUptoRow : OpenClaim := { program := "ytkokdcbnnihkaaa", sum := "6ebc596ddb1269e42305c20ff733ddae373d117d1fd8d842023cfaef03167435", func := "muntin/muntinlaw01.WordConds", spec := "wordConds", unfollowed := true, recurses := true, apart := false, narrowed := true }
def WordCondsUptoSaid : Prop := wordCondsUptoRow.holds Try.pinned (OpenSpec.upto wordCondsSpec)

/-- 'muntinlaw01.WordBack', WHERE WHAT IT READS IS OF BULK AT MOST 1048576: true; the input reads as it did. -/
def wordBackUptoRow : OpenClaim := { program := "ytkokdcbnnihkaaa", sum := "6ebc596ddb1269e42305c20ff733ddae373d117d1fd8d842023cfaef03167435", func := "muntin/muntinlaw01.WordBack", spec := "wordBack", unfollowed := true, recurses := true, apart := false, narrowed := true }
def WordBackUptoSaid : Prop := wordBackUptoRow.holds Try.pinned (OpenSpec.upto wordBackSpec)

/-- 'muntinlaw01.WordShifts', WHERE WHAT IT READS IS OF BULK AT MOST 1048576: true; the input reads as it did. -/
def wordShiftsUptoRow : OpenClaim := { program := "ytkokdcbnnihkaaa", sum := "6ebc596ddb1269e42305c20ff733ddae373d117d1fd8d842023cfaef03167435", func := "muntin/muntinlaw01.WordShifts", spec := "wordShifts", unfollowed := true, recurses := true, apart := false, narrowed := true }
def WordShiftsUptoSaid : Prop := wordShiftsUptoRow.holds Try.pinned (OpenSpec.upto wordShiftsSpec)

/-- 'muntinlaw01.WordAround', WHERE WHAT IT READS IS OF BULK AT MOST 1048576: true; the input reads as it did. -/
def wordAroundUptoRow : OpenClaim := { program := "ytkokdcbnnihkaaa", sum := "6ebc596ddb1269e42305c20ff733ddae373d117d1fd8d842023cfaef03167435", func := "muntin/muntinlaw01.WordAround", spec := "wordAround", unfollowed := true, recurses := true, apart := false, narrowed := true }
def WordAroundUptoSaid : Prop := wordAroundUptoRow.holds Try.pinned (OpenSpec.upto wordAroundSpec)

/-- 'muntinlaw05.MemPlays', WHERE WHAT IT READS IS OF BULK AT MOST 1048576: true; the input reads as it did. -/
def memPlaysUptoRow : OpenClaim := { program := "ytkokdcbnnihkaaa", sum := "6ebc596ddb1269e42305c20ff733ddae373d117d1fd8d842023cfaef03167435", func := "muntin/muntinlaw05.MemPlays", spec := "memPlays", apart := false, narrowed := true }
def MemPlaysUptoSaid : Prop := memPlaysUptoRow.holds Try.pinned (OpenSpec.upto memPlaysSpec)

/-- 'muntinlaw05.MemNone', WHERE WHAT IT READS IS OF BULK AT MOST 1048576: true; the input reads as it did. -/
def memNoneUptoRow : OpenClaim := { program := "ytkokdcbnnihkaaa", sum := "6ebc596ddb1269e42305c20ff733ddae373d117d1fd8d842023cfaef03167435", func := "muntin/muntinlaw05.MemNone", spec := "memNone", apart := false, narrowed := true }
def MemNoneUptoSaid : Prop := memNoneUptoRow.holds Try.pinned (OpenSpec.upto memNoneSpec)

end Rows
end Go.Proofs.Ytkokdcbnnihkaaa
