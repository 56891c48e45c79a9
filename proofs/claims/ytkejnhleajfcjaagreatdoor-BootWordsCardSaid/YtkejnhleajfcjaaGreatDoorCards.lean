/-
  DERIVED. GIVEN WITH THE SEED: THE CARDS: each row of YtkejnhleajfcjaaGreatDoorRows.lean that lists a variable, with what it lists TIED to the program's text (the seventh form; the later family's looks); each row that meets fmt, with fmt's text TOLD by the authors' own Lean function (tested against real Go, not proved from fmt's source: count such statements apart). THE CARD IS WHAT COUNTS. Prove the row's statement (the work); the ties are given (YtkejnhleajfcjaaGreatDoorTie.lean); close each card by the builder's one call (the guide's Derived/Test/ToyasCard.lean, 'card_holds'). Laid BY PROGRAM, IN A SANDBOX (cutbox-door.mjs). By AI agents, Wed Nov 11 2026. No macro, syntax, notation, axiom, sorry.
-/
import Derived.Test.YtkejnhleajfcjaaGreatDoorRows
import GoSem.ClaimSeven
namespace Go.Proofs.YtkejnhleajfcjaaGreatDoor
namespace Rows

/-- THE TIED CARD OF 'muntinlaw11.BootRuns'. -/
def bootRunsCard : Claim7 := { stood := { row := bootRunsRow, standIns := [], harness := (true, "186372571d2649d0adfb42d6344173717d798613dab1911954755632844351ea"), looks := true }, kinds := [], alts := [], laidByText := true, laidKinds := [.data, .data, .data, .data], laidTests := true, laidLooks := .later }
def BootRunsCardSaid : Prop := Claim7.holds Tryz.pinned (.plain (OpenSpec.ofChange bootRunsSpec)) bootRunsCard

/-- THE TIED CARD OF 'muntinlaw06.MachSteps'. -/
def machStepsCard : Claim7 := { stood := { row := machStepsRow, standIns := [], harness := (true, "186372571d2649d0adfb42d6344173717d798613dab1911954755632844351ea"), looks := true }, kinds := [], alts := [], laidByText := true, laidKinds := [.data, .data], laidTests := true, laidLooks := .later }
def MachStepsCardSaid : Prop := Claim7.holds Tryz.pinned (.plain (OpenSpec.ofChange machStepsSpec)) machStepsCard

/-- THE TIED CARD OF 'muntinlaw11.BootWords'. -/
def bootWordsCard : Claim7 := { stood := { row := bootWordsRow, standIns := [], harness := (true, "186372571d2649d0adfb42d6344173717d798613dab1911954755632844351ea"), looks := true }, kinds := [], alts := [], laidByText := true, laidKinds := [.data, .data, .data, .data], laidTests := true, laidLooks := .later }
def BootWordsCardSaid : Prop := Claim7.holds Tryz.pinned (.plain (OpenSpec.ofChange bootWordsSpec)) bootWordsCard

/-- THE TIED CARD OF 'muntinlaw11.BootNone'. -/
def bootNoneCard : Claim7 := { stood := { row := bootNoneRow, standIns := [], harness := (true, "186372571d2649d0adfb42d6344173717d798613dab1911954755632844351ea"), looks := true }, kinds := [], alts := [], laidByText := true, laidKinds := [.data, .data, .data, .data], laidTests := true, laidLooks := .later }
def BootNoneCardSaid : Prop := Claim7.holds Tryz.pinned (.plain (OpenSpec.ofChange bootNoneSpec)) bootNoneCard

/-- THE TIED CARD OF 'muntinlaw08.WindBack'. -/
def windBackCard : Claim7 := { stood := { row := windBackRow, standIns := [], harness := (true, "186372571d2649d0adfb42d6344173717d798613dab1911954755632844351ea"), looks := true }, kinds := [], alts := [], laidByText := true, laidKinds := [.data, .data], laidTests := true, laidLooks := .later }
def WindBackCardSaid : Prop := Claim7.holds Tryz.pinned (.plain (OpenSpec.ofChange windBackSpec)) windBackCard

/-- THE TIED CARD OF 'muntinlaw08.WindTurns'. -/
def windTurnsCard : Claim7 := { stood := { row := windTurnsRow, standIns := [], harness := (true, "186372571d2649d0adfb42d6344173717d798613dab1911954755632844351ea"), looks := true }, kinds := [], alts := [], laidByText := true, laidKinds := [.data, .data], laidTests := true, laidLooks := .later }
def WindTurnsCardSaid : Prop := Claim7.holds Tryz.pinned (.plain (OpenSpec.ofChange windTurnsSpec)) windTurnsCard

/-- THE TIED CARD OF 'muntinlaw10.SwapWords'. -/
def swapWordsCard : Claim7 := { stood := { row := swapWordsRow, standIns := [], harness := (true, "186372571d2649d0adfb42d6344173717d798613dab1911954755632844351ea"), looks := true }, kinds := [], alts := [], laidByText := true, laidKinds := [.data, .data], laidTests := true, laidLooks := .later }
def SwapWordsCardSaid : Prop := Claim7.holds Tryz.pinned (.plain (OpenSpec.ofChange swapWordsSpec)) swapWordsCard

/-- THE TIED CARD OF 'muntinlaw10.SwapBack'. -/
def swapBackCard : Claim7 := { stood := { row := swapBackRow, standIns := [], harness := (true, "186372571d2649d0adfb42d6344173717d798613dab1911954755632844351ea"), looks := true }, kinds := [], alts := [], laidByText := true, laidKinds := [.data, .data], laidTests := true, laidLooks := .later }
def SwapBackCardSaid : Prop := Claim7.holds Tryz.pinned (.plain (OpenSpec.ofChange swapBackSpec)) swapBackCard

/-- THE TIED CARD OF 'muntinlaw10.SwapTurns'. -/
def swapTurnsCard : Claim7 := { stood := { row := swapTurnsRow, standIns := [], harness := (true, "186372571d2649d0adfb42d6344173717d798613dab1911954755632844351ea"), looks := true }, kinds := [], alts := [], laidByText := true, laidKinds := [.data, .data], laidTests := true, laidLooks := .later }
def SwapTurnsCardSaid : Prop := Claim7.holds Tryz.pinned (.plain (OpenSpec.ofChange swapTurnsSpec)) swapTurnsCard

/-- THE TIED CARD OF 'muntinlaw09.TickCounts'. -/
def tickCountsCard : Claim7 := { stood := { row := tickCountsRow, standIns := [], harness := (true, "186372571d2649d0adfb42d6344173717d798613dab1911954755632844351ea"), looks := true }, kinds := [], alts := [], laidByText := true, laidKinds := [.data, .data, .data, .data], laidTests := true, laidLooks := .later }
def TickCountsCardSaid : Prop := Claim7.holds Tryz.pinned (.plain (OpenSpec.ofChange tickCountsSpec)) tickCountsCard

/-- THE SECOND FORM's CARD OF 'muntinlaw11.BootRuns'. -/
def bootRunsUptoCard : Claim7 := { stood := { row := bootRunsUptoRow, standIns := [], harness := (true, "186372571d2649d0adfb42d6344173717d798613dab1911954755632844351ea"), looks := true }, kinds := [], alts := [], laidByText := true, laidKinds := [.data, .data, .data, .data], laidTests := true, laidLooks := .later }
def BootRunsUptoCardSaid : Prop := Claim7.holds Tryz.pinned (.plain (OpenSpec.upto bootRunsSpec)) bootRunsUptoCard

/-- THE SECOND FORM's CARD OF 'muntinlaw06.MachSteps'. -/
def machStepsUptoCard : Claim7 := { stood := { row := machStepsUptoRow, standIns := [], harness := (true, "186372571d2649d0adfb42d6344173717d798613dab1911954755632844351ea"), looks := true }, kinds := [], alts := [], laidByText := true, laidKinds := [.data, .data], laidTests := true, laidLooks := .later }
def MachStepsUptoCardSaid : Prop := Claim7.holds Tryz.pinned (.plain (OpenSpec.upto machStepsSpec)) machStepsUptoCard

/-- THE SECOND FORM's CARD OF 'muntinlaw11.BootWords'. -/
def bootWordsUptoCard : Claim7 := { stood := { row := bootWordsUptoRow, standIns := [], harness := (true, "186372571d2649d0adfb42d6344173717d798613dab1911954755632844351ea"), looks := true }, kinds := [], alts := [], laidByText := true, laidKinds := [.data, .data, .data, .data], laidTests := true, laidLooks := .later }
def BootWordsUptoCardSaid : Prop := Claim7.holds Tryz.pinned (.plain (OpenSpec.upto bootWordsSpec)) bootWordsUptoCard

/-- THE SECOND FORM's CARD OF 'muntinlaw11.BootNone'. -/
def bootNoneUptoCard : Claim7 := { stood := { row := bootNoneUptoRow, standIns := [], harness := (true, "186372571d2649d0adfb42d6344173717d798613dab1911954755632844351ea"), looks := true }, kinds := [], alts := [], laidByText := true, laidKinds := [.data, .data, .data, .data], laidTests := true, laidLooks := .later }
def BootNoneUptoCardSaid : Prop := Claim7.holds Tryz.pinned (.plain (OpenSpec.upto bootNoneSpec)) bootNoneUptoCard

/-- THE SECOND FORM's CARD OF 'muntinlaw08.WindBack'. -/
def windBackUptoCard : Claim7 := { stood := { row := windBackUptoRow, standIns := [], harness := (true, "186372571d2649d0adfb42d6344173717d798613dab1911954755632844351ea"), looks := true }, kinds := [], alts := [], laidByText := true, laidKinds := [.data, .data], laidTests := true, laidLooks := .later }
def WindBackUptoCardSaid : Prop := Claim7.holds Tryz.pinned (.plain (OpenSpec.upto windBackSpec)) windBackUptoCard

/-- THE SECOND FORM's CARD OF 'muntinlaw08.WindTurns'. -/
def windTurnsUptoCard : Claim7 := { stood := { row := windTurnsUptoRow, standIns := [], harness := (true, "186372571d2649d0adfb42d6344173717d798613dab1911954755632844351ea"), looks := true }, kinds := [], alts := [], laidByText := true, laidKinds := [.data, .data], laidTests := true, laidLooks := .later }
def WindTurnsUptoCardSaid : Prop := Claim7.holds Tryz.pinned (.plain (OpenSpec.upto windTurnsSpec)) windTurnsUptoCard

/-- THE SECOND FORM's CARD OF 'muntinlaw10.SwapWords'. -/
def swapWordsUptoCard : Claim7 := { stood := { row := swapWordsUptoRow, standIns := [], harness := (true, "186372571d2649d0adfb42d6344173717d798613dab1911954755632844351ea"), looks := true }, kinds := [], alts := [], laidByText := true, laidKinds := [.data, .data], laidTests := true, laidLooks := .later }
def SwapWordsUptoCardSaid : Prop := Claim7.holds Tryz.pinned (.plain (OpenSpec.upto swapWordsSpec)) swapWordsUptoCard

/-- THE SECOND FORM's CARD OF 'muntinlaw10.SwapBack'. -/
def swapBackUptoCard : Claim7 := { stood := { row := swapBackUptoRow, standIns := [], harness := (true, "186372571d2649d0adfb42d6344173717d798613dab1911954755632844351ea"), looks := true }, kinds := [], alts := [], laidByText := true, laidKinds := [.data, .data], laidTests := true, laidLooks := .later }
def SwapBackUptoCardSaid : Prop := Claim7.holds Tryz.pinned (.plain (OpenSpec.upto swapBackSpec)) swapBackUptoCard

/-- THE SECOND FORM's CARD OF 'muntinlaw10.SwapTurns'. -/
def swapTurnsUptoCard : Claim7 := { stood := { row := swapTurnsUptoRow, standIns := [], harness := (true, "186372571d2649d0adfb42d6344173717d798613dab1911954755632844351ea"), looks := true }, kinds := [], alts := [], laidByText := true, laidKinds := [.data, .data], laidTests := true, laidLooks := .later }
def SwapTurnsUptoCardSaid : Prop := Claim7.holds Tryz.pinned (.plain (OpenSpec.upto swapTurnsSpec)) swapTurnsUptoCard

/-- THE SECOND FORM's CARD OF 'muntinlaw09.TickCounts'. -/
def tickCountsUptoCard : Claim7 := { stood := { row := tickCountsUptoRow, standIns := [], harness := (true, "186372571d2649d0adfb42d6344173717d798613dab1911954755632844351ea"), looks := true }, kinds := [], alts := [], laidByText := true, laidKinds := [.data, .data, .data, .data], laidTests := true, laidLooks := .later }
def TickCountsUptoCardSaid : Prop := Claim7.holds Tryz.pinned (.plain (OpenSpec.upto tickCountsSpec)) tickCountsUptoCard
end Rows
end Go.Proofs.YtkejnhleajfcjaaGreatDoor
