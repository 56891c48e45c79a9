/-
  DERIVED. GIVEN WITH THE SEED: THE CARDS: each row of YtilegepenibeoaaDoorRows.lean that lists a variable, with what it lists TIED to the program's text (the seventh form; the later family's looks); each row that meets fmt, with fmt's text TOLD by the authors' own Lean function (tested against real Go, not proved from fmt's source: count such statements apart). THE CARD IS WHAT COUNTS. Prove the row's statement (the work); the ties are given (YtilegepenibeoaaDoorTie.lean); close each card by the builder's one call (the guide's Derived/Test/ToyasCard.lean, 'card_holds'). Laid BY PROGRAM, IN A SANDBOX (cutbox-door.mjs). By AI agents, Wed Nov 11 2026. No macro, syntax, notation, axiom, sorry.
-/
import Derived.Test.YtilegepenibeoaaDoorRows
import GoSem.ClaimSeven
namespace Go.Proofs.YtilegepenibeoaaDoor
namespace Rows

/-- THE TIED CARD OF 'muntinlaw02.InstEncodes'. -/
def instEncodesCard : Claim7 := { stood := { row := instEncodesRow, standIns := [], harness := (true, "95f060ff317aa9f78794ec0aa65f95683d4aaf48facd4ed9376446da95a068d1"), looks := true }, kinds := [], alts := [], laidByText := true, laidKinds := [.data], laidTests := true, laidLooks := .later }
def InstEncodesCardSaid : Prop := Claim7.holds Tryd.pinned (.plain (OpenSpec.ofChange instEncodesSpec)) instEncodesCard

/-- THE TIED CARD OF 'muntinlaw02.InstDecodes'. -/
def instDecodesCard : Claim7 := { stood := { row := instDecodesRow, standIns := [], harness := (true, "95f060ff317aa9f78794ec0aa65f95683d4aaf48facd4ed9376446da95a068d1"), looks := true }, kinds := [], alts := [], laidByText := true, laidKinds := [.data], laidTests := true, laidLooks := .later }
def InstDecodesCardSaid : Prop := Claim7.holds Tryd.pinned (.plain (OpenSpec.ofChange instDecodesSpec)) instDecodesCard

/-- THE TIED CARD OF 'muntinlaw02.InstUnlike'. -/
def instUnlikeCard : Claim7 := { stood := { row := instUnlikeRow, standIns := [], harness := (true, "95f060ff317aa9f78794ec0aa65f95683d4aaf48facd4ed9376446da95a068d1"), looks := true }, kinds := [], alts := [], laidByText := true, laidKinds := [.data], laidTests := true, laidLooks := .later }
def InstUnlikeCardSaid : Prop := Claim7.holds Tryd.pinned (.plain (OpenSpec.ofChange instUnlikeSpec)) instUnlikeCard

/-- THE TIED CARD OF 'muntinlaw04.PsrPacks'. -/
def psrPacksCard : Claim7 := { stood := { row := psrPacksRow, standIns := [], harness := (true, "95f060ff317aa9f78794ec0aa65f95683d4aaf48facd4ed9376446da95a068d1"), looks := true }, kinds := [], alts := [], laidByText := true, laidKinds := [.data], laidTests := true, laidLooks := .later }
def PsrPacksCardSaid : Prop := Claim7.holds Tryd.pinned (.plain (OpenSpec.ofChange psrPacksSpec)) psrPacksCard

/-- THE TIED CARD OF 'muntinlaw04.PsrWindows'. -/
def psrWindowsCard : Claim7 := { stood := { row := psrWindowsRow, standIns := [], harness := (true, "95f060ff317aa9f78794ec0aa65f95683d4aaf48facd4ed9376446da95a068d1"), looks := true }, kinds := [], alts := [], laidByText := true, laidKinds := [.data], laidTests := true, laidLooks := .later }
def PsrWindowsCardSaid : Prop := Claim7.holds Tryd.pinned (.plain (OpenSpec.ofChange psrWindowsSpec)) psrWindowsCard

/-- THE TIED CARD OF 'muntinlaw04.PsrCircle'. -/
def psrCircleCard : Claim7 := { stood := { row := psrCircleRow, standIns := [], harness := (true, "95f060ff317aa9f78794ec0aa65f95683d4aaf48facd4ed9376446da95a068d1"), looks := true }, kinds := [], alts := [], laidByText := true, laidKinds := [.data], laidTests := true, laidLooks := .later }
def PsrCircleCardSaid : Prop := Claim7.holds Tryd.pinned (.plain (OpenSpec.ofChange psrCircleSpec)) psrCircleCard

/-- THE TIED CARD OF 'muntinlaw04.PsrTurns'. -/
def psrTurnsCard : Claim7 := { stood := { row := psrTurnsRow, standIns := [], harness := (true, "95f060ff317aa9f78794ec0aa65f95683d4aaf48facd4ed9376446da95a068d1"), looks := true }, kinds := [], alts := [], laidByText := true, laidKinds := [.data], laidTests := true, laidLooks := .later }
def PsrTurnsCardSaid : Prop := Claim7.holds Tryd.pinned (.plain (OpenSpec.ofChange psrTurnsSpec)) psrTurnsCard

/-- THE TIED CARD OF 'muntinlaw07.AsmMoves'. -/
def asmMovesCard : Claim7 := { stood := { row := asmMovesRow, standIns := [], harness := (true, "95f060ff317aa9f78794ec0aa65f95683d4aaf48facd4ed9376446da95a068d1"), looks := true }, kinds := [], alts := [], laidByText := true, laidKinds := [.data], laidTests := true, laidLooks := .later }
def AsmMovesCardSaid : Prop := Claim7.holds Tryd.pinned (.plain (OpenSpec.ofChange asmMovesSpec)) asmMovesCard

/-- THE TIED CARD OF 'muntinlaw07.AsmPlays'. -/
def asmPlaysCard : Claim7 := { stood := { row := asmPlaysRow, standIns := [], harness := (true, "95f060ff317aa9f78794ec0aa65f95683d4aaf48facd4ed9376446da95a068d1"), looks := true }, kinds := [], alts := [], laidByText := true, laidKinds := [.data], laidTests := true, laidLooks := .later }
def AsmPlaysCardSaid : Prop := Claim7.holds Tryd.pinned (.plain (OpenSpec.ofChange asmPlaysSpec)) asmPlaysCard

/-- THE TIED CARD OF 'muntinlaw07.AsmNone'. -/
def asmNoneCard : Claim7 := { stood := { row := asmNoneRow, standIns := [], harness := (true, "95f060ff317aa9f78794ec0aa65f95683d4aaf48facd4ed9376446da95a068d1"), looks := true }, kinds := [], alts := [], laidByText := true, laidKinds := [.data], laidTests := true, laidLooks := .later }
def AsmNoneCardSaid : Prop := Claim7.holds Tryd.pinned (.plain (OpenSpec.ofChange asmNoneSpec)) asmNoneCard

/-- THE SECOND FORM's CARD OF 'muntinlaw02.InstEncodes'. -/
def instEncodesUptoCard : Claim7 := { stood := { row := instEncodesUptoRow, standIns := [], harness := (true, "95f060ff317aa9f78794ec0aa65f95683d4aaf48facd4ed9376446da95a068d1"), looks := true }, kinds := [], alts := [], laidByText := true, laidKinds := [.data], laidTests := true, laidLooks := .later }
def InstEncodesUptoCardSaid : Prop := Claim7.holds Tryd.pinned (.plain (OpenSpec.upto instEncodesSpec)) instEncodesUptoCard

/-- THE SECOND FORM's CARD OF 'muntinlaw02.InstDecodes'. -/
def instDecodesUptoCard : Claim7 := { stood := { row := instDecodesUptoRow, standIns := [], harness := (true, "95f060ff317aa9f78794ec0aa65f95683d4aaf48facd4ed9376446da95a068d1"), looks := true }, kinds := [], alts := [], laidByText := true, laidKinds := [.data], laidTests := true, laidLooks := .later }
def InstDecodesUptoCardSaid : Prop := Claim7.holds Tryd.pinned (.plain (OpenSpec.upto instDecodesSpec)) instDecodesUptoCard

/-- THE SECOND FORM's CARD OF 'muntinlaw02.InstUnlike'. -/
def instUnlikeUptoCard : Claim7 := { stood := { row := instUnlikeUptoRow, standIns := [], harness := (true, "95f060ff317aa9f78794ec0aa65f95683d4aaf48facd4ed9376446da95a068d1"), looks := true }, kinds := [], alts := [], laidByText := true, laidKinds := [.data], laidTests := true, laidLooks := .later }
def InstUnlikeUptoCardSaid : Prop := Claim7.holds Tryd.pinned (.plain (OpenSpec.upto instUnlikeSpec)) instUnlikeUptoCard

/-- THE SECOND FORM's CARD OF 'muntinlaw04.PsrPacks'. -/
def psrPacksUptoCard : Claim7 := { stood := { row := psrPacksUptoRow, standIns := [], harness := (true, "95f060ff317aa9f78794ec0aa65f95683d4aaf48facd4ed9376446da95a068d1"), looks := true }, kinds := [], alts := [], laidByText := true, laidKinds := [.data], laidTests := true, laidLooks := .later }
def PsrPacksUptoCardSaid : Prop := Claim7.holds Tryd.pinned (.plain (OpenSpec.upto psrPacksSpec)) psrPacksUptoCard

/-- THE SECOND FORM's CARD OF 'muntinlaw04.PsrWindows'. -/
def psrWindowsUptoCard : Claim7 := { stood := { row := psrWindowsUptoRow, standIns := [], harness := (true, "95f060ff317aa9f78794ec0aa65f95683d4aaf48facd4ed9376446da95a068d1"), looks := true }, kinds := [], alts := [], laidByText := true, laidKinds := [.data], laidTests := true, laidLooks := .later }
def PsrWindowsUptoCardSaid : Prop := Claim7.holds Tryd.pinned (.plain (OpenSpec.upto psrWindowsSpec)) psrWindowsUptoCard

/-- THE SECOND FORM's CARD OF 'muntinlaw04.PsrCircle'. -/
def psrCircleUptoCard : Claim7 := { stood := { row := psrCircleUptoRow, standIns := [], harness := (true, "95f060ff317aa9f78794ec0aa65f95683d4aaf48facd4ed9376446da95a068d1"), looks := true }, kinds := [], alts := [], laidByText := true, laidKinds := [.data], laidTests := true, laidLooks := .later }
def PsrCircleUptoCardSaid : Prop := Claim7.holds Tryd.pinned (.plain (OpenSpec.upto psrCircleSpec)) psrCircleUptoCard

/-- THE SECOND FORM's CARD OF 'muntinlaw04.PsrTurns'. -/
def psrTurnsUptoCard : Claim7 := { stood := { row := psrTurnsUptoRow, standIns := [], harness := (true, "95f060ff317aa9f78794ec0aa65f95683d4aaf48facd4ed9376446da95a068d1"), looks := true }, kinds := [], alts := [], laidByText := true, laidKinds := [.data], laidTests := true, laidLooks := .later }
def PsrTurnsUptoCardSaid : Prop := Claim7.holds Tryd.pinned (.plain (OpenSpec.upto psrTurnsSpec)) psrTurnsUptoCard

/-- THE SECOND FORM's CARD OF 'muntinlaw07.AsmMoves'. -/
def asmMovesUptoCard : Claim7 := { stood := { row := asmMovesUptoRow, standIns := [], harness := (true, "95f060ff317aa9f78794ec0aa65f95683d4aaf48facd4ed9376446da95a068d1"), looks := true }, kinds := [], alts := [], laidByText := true, laidKinds := [.data], laidTests := true, laidLooks := .later }
def AsmMovesUptoCardSaid : Prop := Claim7.holds Tryd.pinned (.plain (OpenSpec.upto asmMovesSpec)) asmMovesUptoCard

/-- THE SECOND FORM's CARD OF 'muntinlaw07.AsmPlays'. -/
def asmPlaysUptoCard : Claim7 := { stood := { row := asmPlaysUptoRow, standIns := [], harness := (true, "95f060ff317aa9f78794ec0aa65f95683d4aaf48facd4ed9376446da95a068d1"), looks := true }, kinds := [], alts := [], laidByText := true, laidKinds := [.data], laidTests := true, laidLooks := .later }
def AsmPlaysUptoCardSaid : Prop := Claim7.holds Tryd.pinned (.plain (OpenSpec.upto asmPlaysSpec)) asmPlaysUptoCard

/-- THE SECOND FORM's CARD OF 'muntinlaw07.AsmNone'. -/
def asmNoneUptoCard : Claim7 := { stood := { row := asmNoneUptoRow, standIns := [], harness := (true, "95f060ff317aa9f78794ec0aa65f95683d4aaf48facd4ed9376446da95a068d1"), looks := true }, kinds := [], alts := [], laidByText := true, laidKinds := [.data], laidTests := true, laidLooks := .later }
def AsmNoneUptoCardSaid : Prop := Claim7.holds Tryd.pinned (.plain (OpenSpec.upto asmNoneSpec)) asmNoneUptoCard
end Rows
end Go.Proofs.YtilegepenibeoaaDoor
