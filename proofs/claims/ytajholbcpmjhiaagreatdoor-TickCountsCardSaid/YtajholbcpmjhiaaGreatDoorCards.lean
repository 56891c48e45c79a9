/-
  DERIVED. GIVEN WITH THE SEED: THE CARDS: each row of YtajholbcpmjhiaaGreatDoorRows.lean that lists a variable, with what it lists TIED to the program's text (the seventh form; the later family's looks); each row that meets fmt, with fmt's text TOLD by the authors' own Lean function (tested against real Go, not proved from fmt's source: count such statements apart). THE CARD IS WHAT COUNTS. Prove the row's statement (the work); the ties are given (YtajholbcpmjhiaaGreatDoorTie.lean); close each card by the builder's one call (the guide's Derived/Test/ToyasCard.lean, 'card_holds'). Laid BY PROGRAM, IN A SANDBOX (cutbox-door.mjs). By AI agents, Wed Nov 11 2026. No macro, syntax, notation, axiom, sorry.
-/
import Derived.Test.YtajholbcpmjhiaaGreatDoorRows
import GoSem.ClaimSeven
namespace Go.Proofs.YtajholbcpmjhiaaGreatDoor
namespace Rows

/-- THE TIED CARD OF 'muntinlaw08.WindBack'. -/
def windBackCard : Claim7 := { stood := { row := windBackRow, standIns := [], harness := (true, "2e7edfd0c0601fe81c4756f9849f7b3c418c5e0be1b44ffb00f160dfed7c9470"), looks := true }, kinds := [], alts := [], laidByText := true, laidKinds := [.data, .data], laidTests := true, laidLooks := .later }
def WindBackCardSaid : Prop := Claim7.holds Tryz.pinned (.plain (OpenSpec.ofChange windBackSpec)) windBackCard

/-- THE TIED CARD OF 'muntinlaw08.WindTurns'. -/
def windTurnsCard : Claim7 := { stood := { row := windTurnsRow, standIns := [], harness := (true, "2e7edfd0c0601fe81c4756f9849f7b3c418c5e0be1b44ffb00f160dfed7c9470"), looks := true }, kinds := [], alts := [], laidByText := true, laidKinds := [.data, .data], laidTests := true, laidLooks := .later }
def WindTurnsCardSaid : Prop := Claim7.holds Tryz.pinned (.plain (OpenSpec.ofChange windTurnsSpec)) windTurnsCard

/-- THE TIED CARD OF 'muntinlaw10.SwapWords'. -/
def swapWordsCard : Claim7 := { stood := { row := swapWordsRow, standIns := [], harness := (true, "2e7edfd0c0601fe81c4756f9849f7b3c418c5e0be1b44ffb00f160dfed7c9470"), looks := true }, kinds := [], alts := [], laidByText := true, laidKinds := [.data, .data], laidTests := true, laidLooks := .later }
def SwapWordsCardSaid : Prop := Claim7.holds Tryz.pinned (.plain (OpenSpec.ofChange swapWordsSpec)) swapWordsCard

/-- THE TIED CARD OF 'muntinlaw10.SwapBack'. -/
def swapBackCard : Claim7 := { stood := { row := swapBackRow, standIns := [], harness := (true, "2e7edfd0c0601fe81c4756f9849f7b3c418c5e0be1b44ffb00f160dfed7c9470"), looks := true }, kinds := [], alts := [], laidByText := true, laidKinds := [.data, .data], laidTests := true, laidLooks := .later }
def SwapBackCardSaid : Prop := Claim7.holds Tryz.pinned (.plain (OpenSpec.ofChange swapBackSpec)) swapBackCard

/-- THE TIED CARD OF 'muntinlaw10.SwapTurns'. -/
def swapTurnsCard : Claim7 := { stood := { row := swapTurnsRow, standIns := [], harness := (true, "2e7edfd0c0601fe81c4756f9849f7b3c418c5e0be1b44ffb00f160dfed7c9470"), looks := true }, kinds := [], alts := [], laidByText := true, laidKinds := [.data, .data], laidTests := true, laidLooks := .later }
def SwapTurnsCardSaid : Prop := Claim7.holds Tryz.pinned (.plain (OpenSpec.ofChange swapTurnsSpec)) swapTurnsCard

/-- THE TIED CARD OF 'muntinlaw09.TickCounts'. -/
def tickCountsCard : Claim7 := { stood := { row := tickCountsRow, standIns := [], harness := (true, "2e7edfd0c0601fe81c4756f9849f7b3c418c5e0be1b44ffb00f160dfed7c9470"), looks := true }, kinds := [], alts := [], laidByText := true, laidKinds := [.data, .data, .data, .data], laidTests := true, laidLooks := .later }
def TickCountsCardSaid : Prop := Claim7.holds Tryz.pinned (.plain (OpenSpec.ofChange tickCountsSpec)) tickCountsCard

/-- THE SECOND FORM's CARD OF 'muntinlaw08.WindBack'. -/
def windBackUptoCard : Claim7 := { stood := { row := windBackUptoRow, standIns := [], harness := (true, "2e7edfd0c0601fe81c4756f9849f7b3c418c5e0be1b44ffb00f160dfed7c9470"), looks := true }, kinds := [], alts := [], laidByText := true, laidKinds := [.data, .data], laidTests := true, laidLooks := .later }
def WindBackUptoCardSaid : Prop := Claim7.holds Tryz.pinned (.plain (OpenSpec.upto windBackSpec)) windBackUptoCard

/-- THE SECOND FORM's CARD OF 'muntinlaw08.WindTurns'. -/
def windTurnsUptoCard : Claim7 := { stood := { row := windTurnsUptoRow, standIns := [], harness := (true, "2e7edfd0c0601fe81c4756f9849f7b3c418c5e0be1b44ffb00f160dfed7c9470"), looks := true }, kinds := [], alts := [], laidByText := true, laidKinds := [.data, .data], laidTests := true, laidLooks := .later }
def WindTurnsUptoCardSaid : Prop := Claim7.holds Tryz.pinned (.plain (OpenSpec.upto windTurnsSpec)) windTurnsUptoCard

/-- THE SECOND FORM's CARD OF 'muntinlaw10.SwapWords'. -/
def swapWordsUptoCard : Claim7 := { stood := { row := swapWordsUptoRow, standIns := [], harness := (true, "2e7edfd0c0601fe81c4756f9849f7b3c418c5e0be1b44ffb00f160dfed7c9470"), looks := true }, kinds := [], alts := [], laidByText := true, laidKinds := [.data, .data], laidTests := true, laidLooks := .later }
def SwapWordsUptoCardSaid : Prop := Claim7.holds Tryz.pinned (.plain (OpenSpec.upto swapWordsSpec)) swapWordsUptoCard

/-- THE SECOND FORM's CARD OF 'muntinlaw10.SwapBack'. -/
def swapBackUptoCard : Claim7 := { stood := { row := swapBackUptoRow, standIns := [], harness := (true, "2e7edfd0c0601fe81c4756f9849f7b3c418c5e0be1b44ffb00f160dfed7c9470"), looks := true }, kinds := [], alts := [], laidByText := true, laidKinds := [.data, .data], laidTests := true, laidLooks := .later }
def SwapBackUptoCardSaid : Prop := Claim7.holds Tryz.pinned (.plain (OpenSpec.upto swapBackSpec)) swapBackUptoCard

/-- THE SECOND FORM's CARD OF 'muntinlaw10.SwapTurns'. -/
def swapTurnsUptoCard : Claim7 := { stood := { row := swapTurnsUptoRow, standIns := [], harness := (true, "2e7edfd0c0601fe81c4756f9849f7b3c418c5e0be1b44ffb00f160dfed7c9470"), looks := true }, kinds := [], alts := [], laidByText := true, laidKinds := [.data, .data], laidTests := true, laidLooks := .later }
def SwapTurnsUptoCardSaid : Prop := Claim7.holds Tryz.pinned (.plain (OpenSpec.upto swapTurnsSpec)) swapTurnsUptoCard

/-- THE SECOND FORM's CARD OF 'muntinlaw09.TickCounts'. -/
def tickCountsUptoCard : Claim7 := { stood := { row := tickCountsUptoRow, standIns := [], harness := (true, "2e7edfd0c0601fe81c4756f9849f7b3c418c5e0be1b44ffb00f160dfed7c9470"), looks := true }, kinds := [], alts := [], laidByText := true, laidKinds := [.data, .data, .data, .data], laidTests := true, laidLooks := .later }
def TickCountsUptoCardSaid : Prop := Claim7.holds Tryz.pinned (.plain (OpenSpec.upto tickCountsSpec)) tickCountsUptoCard
end Rows
end Go.Proofs.YtajholbcpmjhiaaGreatDoor
