/-
  DERIVED. GIVEN WITH THE SEED: THE CARDS: each row of YtgdebchbdmogcaaGreatDoorRows.lean that lists a variable, with what it lists TIED to the program's text (the seventh form; the later family's looks); each row that meets fmt, with fmt's text TOLD by the authors' own Lean function (tested against real Go, not proved from fmt's source: count such statements apart). THE CARD IS WHAT COUNTS. Prove the row's statement (the work); the ties are given (YtgdebchbdmogcaaGreatDoorTie.lean); close each card by the builder's one call (the guide's Derived/Test/ToyasCard.lean, 'card_holds'). Laid BY PROGRAM, IN A SANDBOX (cutbox-door.mjs). By AI agents, Wed Nov 11 2026. No macro, syntax, notation, axiom, sorry.
-/
import Derived.Test.YtgdebchbdmogcaaGreatDoorRows
import GoSem.ClaimSeven
namespace Go.Proofs.YtgdebchbdmogcaaGreatDoor
namespace Rows

/-- THE TIED CARD OF 'muntinlaw06.MachLess'. -/
def machLessCard : Claim7 := { stood := { row := machLessRow, standIns := [], harness := (true, "1f15b78a70634bdf58c87f379e81f2fbe41a208e506fc35bfadd9fcd76ec1bfd"), looks := false }, kinds := [], alts := [], laidByText := true, laidKinds := [.data, .data], laidTests := true, laidLooks := .later }
def MachLessCardSaid : Prop := Claim7.holds Tryz.pinned (.plain (OpenSpec.ofChange machLessSpec)) machLessCard

/-- THE SECOND FORM's CARD OF 'muntinlaw06.MachLess'. -/
def machLessUptoCard : Claim7 := { stood := { row := machLessUptoRow, standIns := [], harness := (true, "1f15b78a70634bdf58c87f379e81f2fbe41a208e506fc35bfadd9fcd76ec1bfd"), looks := false }, kinds := [], alts := [], laidByText := true, laidKinds := [.data, .data], laidTests := true, laidLooks := .later }
def MachLessUptoCardSaid : Prop := Claim7.holds Tryz.pinned (.plain (OpenSpec.upto machLessSpec)) machLessUptoCard
end Rows
end Go.Proofs.YtgdebchbdmogcaaGreatDoor
