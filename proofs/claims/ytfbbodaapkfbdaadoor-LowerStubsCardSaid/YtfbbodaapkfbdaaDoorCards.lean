/-
  DERIVED. GIVEN WITH THE SEED: THE CARDS: each row of YtfbbodaapkfbdaaDoorRows.lean that lists a variable, with what it lists TIED to the program's text (the seventh form; the later family's looks); each row that meets fmt, with fmt's text TOLD by the authors' own Lean function (tested against real Go, not proved from fmt's source: count such statements apart). THE CARD IS WHAT COUNTS. Prove the row's statement (the work); the ties are given (YtfbbodaapkfbdaaDoorTie.lean); close each card by the builder's one call (the guide's Derived/Test/ToyasCard.lean, 'card_holds'). Laid BY PROGRAM, IN A SANDBOX (cutbox-door.mjs). By AI agents, Wed Nov 11 2026. No macro, syntax, notation, axiom, sorry.
-/
import Derived.Test.YtfbbodaapkfbdaaDoorRows
import GoSem.ClaimSeven
namespace Go.Proofs.YtfbbodaapkfbdaaDoor
namespace Rows

/-- THE TIED CARD OF 'muntinlaw26.LowerUses'. -/
def lowerUsesCard : Claim7 := { stood := { row := lowerUsesRow, standIns := [], harness := (true, "7745f54d95f0575a33cf8c06d66d5f6ed621c8064ebb4044941f1b33cfd5a551"), looks := true }, kinds := [], alts := [], laidByText := true, laidKinds := [.data, .data, .data, .data], laidTests := true, laidLooks := .later }
def LowerUsesCardSaid : Prop := Claim7.holds Tryd.pinned (.plain (OpenSpec.ofChange lowerUsesSpec)) lowerUsesCard

/-- THE TIED CARD OF 'muntinlaw26.LowerFrames'. -/
def lowerFramesCard : Claim7 := { stood := { row := lowerFramesRow, standIns := [], harness := (true, "7745f54d95f0575a33cf8c06d66d5f6ed621c8064ebb4044941f1b33cfd5a551"), looks := true }, kinds := [], alts := [], laidByText := true, laidKinds := [.data, .data, .data, .data], laidTests := true, laidLooks := .later }
def LowerFramesCardSaid : Prop := Claim7.holds Tryd.pinned (.plain (OpenSpec.ofChange lowerFramesSpec)) lowerFramesCard

/-- THE TIED CARD OF 'muntinlaw26.LowerStubs'. -/
def lowerStubsCard : Claim7 := { stood := { row := lowerStubsRow, standIns := [], harness := (true, "7745f54d95f0575a33cf8c06d66d5f6ed621c8064ebb4044941f1b33cfd5a551"), looks := true }, kinds := [], alts := [], laidByText := true, laidKinds := [.data, .data, .data, .data], laidTests := true, laidLooks := .later }
def LowerStubsCardSaid : Prop := Claim7.holds Tryd.pinned (.plain (OpenSpec.ofChange lowerStubsSpec)) lowerStubsCard

/-- THE SECOND FORM's CARD OF 'muntinlaw26.LowerUses'. -/
def lowerUsesUptoCard : Claim7 := { stood := { row := lowerUsesUptoRow, standIns := [], harness := (true, "7745f54d95f0575a33cf8c06d66d5f6ed621c8064ebb4044941f1b33cfd5a551"), looks := true }, kinds := [], alts := [], laidByText := true, laidKinds := [.data, .data, .data, .data], laidTests := true, laidLooks := .later }
def LowerUsesUptoCardSaid : Prop := Claim7.holds Tryd.pinned (.plain (OpenSpec.upto lowerUsesSpec)) lowerUsesUptoCard

/-- THE SECOND FORM's CARD OF 'muntinlaw26.LowerFrames'. -/
def lowerFramesUptoCard : Claim7 := { stood := { row := lowerFramesUptoRow, standIns := [], harness := (true, "7745f54d95f0575a33cf8c06d66d5f6ed621c8064ebb4044941f1b33cfd5a551"), looks := true }, kinds := [], alts := [], laidByText := true, laidKinds := [.data, .data, .data, .data], laidTests := true, laidLooks := .later }
def LowerFramesUptoCardSaid : Prop := Claim7.holds Tryd.pinned (.plain (OpenSpec.upto lowerFramesSpec)) lowerFramesUptoCard

/-- THE SECOND FORM's CARD OF 'muntinlaw26.LowerStubs'. -/
def lowerStubsUptoCard : Claim7 := { stood := { row := lowerStubsUptoRow, standIns := [], harness := (true, "7745f54d95f0575a33cf8c06d66d5f6ed621c8064ebb4044941f1b33cfd5a551"), looks := true }, kinds := [], alts := [], laidByText := true, laidKinds := [.data, .data, .data, .data], laidTests := true, laidLooks := .later }
def LowerStubsUptoCardSaid : Prop := Claim7.holds Tryd.pinned (.plain (OpenSpec.upto lowerStubsSpec)) lowerStubsUptoCard
end Rows
end Go.Proofs.YtfbbodaapkfbdaaDoor
