/-
  DERIVED. GIVEN WITH THE SEED: THE CARDS: each row of YtgicenbjdadakaaDoorRows.lean that lists a variable, with what it lists TIED to the program's text (the seventh form; the later family's looks); each row that meets fmt, with fmt's text TOLD by the authors' own Lean function (tested against real Go, not proved from fmt's source: count such statements apart). THE CARD IS WHAT COUNTS. Prove the row's statement (the work); the ties are given (YtgicenbjdadakaaDoorTie.lean); close each card by the builder's one call (the guide's Derived/Test/ToyasCard.lean, 'card_holds'). Laid BY PROGRAM, IN A SANDBOX (cutbox-door.mjs). By AI agents, Wed Nov 11 2026. No macro, syntax, notation, axiom, sorry.
-/
import Derived.Test.YtgicenbjdadakaaDoorRows
import GoSem.ClaimSeven
namespace Go.Proofs.YtgicenbjdadakaaDoor
namespace Rows

/-- THE TIED CARD OF 'muntinlaw09.TickPuts'. -/
def tickPutsCard : Claim7 := { stood := { row := tickPutsRow, standIns := [], harness := (true, "cc23256ea3d479d32d3b55405f38537bd435a121eeff43a2c2ad6066d2fc8bdb"), looks := true }, kinds := [], alts := [], laidByText := true, laidKinds := [.data, .data, .data, .data], laidTests := true, laidLooks := .later }
def TickPutsCardSaid : Prop := Claim7.holds Tryd.pinned (.plain (OpenSpec.ofChange tickPutsSpec)) tickPutsCard

/-- THE TIED CARD OF 'muntinlaw07.AsmNone'. -/
def asmNoneCard : Claim7 := { stood := { row := asmNoneRow, standIns := [], harness := (true, "cc23256ea3d479d32d3b55405f38537bd435a121eeff43a2c2ad6066d2fc8bdb"), looks := true }, kinds := [], alts := [], laidByText := true, laidKinds := [.data], laidTests := true, laidLooks := .later }
def AsmNoneCardSaid : Prop := Claim7.holds Tryd.pinned (.plain (OpenSpec.ofChange asmNoneSpec)) asmNoneCard

/-- THE SECOND FORM's CARD OF 'muntinlaw09.TickPuts'. -/
def tickPutsUptoCard : Claim7 := { stood := { row := tickPutsUptoRow, standIns := [], harness := (true, "cc23256ea3d479d32d3b55405f38537bd435a121eeff43a2c2ad6066d2fc8bdb"), looks := true }, kinds := [], alts := [], laidByText := true, laidKinds := [.data, .data, .data, .data], laidTests := true, laidLooks := .later }
def TickPutsUptoCardSaid : Prop := Claim7.holds Tryd.pinned (.plain (OpenSpec.upto tickPutsSpec)) tickPutsUptoCard

/-- THE SECOND FORM's CARD OF 'muntinlaw07.AsmNone'. -/
def asmNoneUptoCard : Claim7 := { stood := { row := asmNoneUptoRow, standIns := [], harness := (true, "cc23256ea3d479d32d3b55405f38537bd435a121eeff43a2c2ad6066d2fc8bdb"), looks := true }, kinds := [], alts := [], laidByText := true, laidKinds := [.data], laidTests := true, laidLooks := .later }
def AsmNoneUptoCardSaid : Prop := Claim7.holds Tryd.pinned (.plain (OpenSpec.upto asmNoneSpec)) asmNoneUptoCard
end Rows
end Go.Proofs.YtgicenbjdadakaaDoor
