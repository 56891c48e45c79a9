/-
  DERIVED. GIVEN WITH THE SEED: THE CARDS: each row of YtacfdddghdnboaaGreatDoorRows.lean that lists a variable, with what it lists TIED to the program's text (the seventh form; the later family's looks); each row that meets fmt, with fmt's text TOLD by the authors' own Lean function (tested against real Go, not proved from fmt's source: count such statements apart). THE CARD IS WHAT COUNTS. Prove the row's statement (the work); the ties are given (YtacfdddghdnboaaGreatDoorTie.lean); close each card by the builder's one call (the guide's Derived/Test/ToyasCard.lean, 'card_holds'). Laid BY PROGRAM, IN A SANDBOX (cutbox-door.mjs). By AI agents, Wed Nov 11 2026. No macro, syntax, notation, axiom, sorry.
-/
import Derived.Test.YtacfdddghdnboaaGreatDoorRows
import GoSem.ClaimSeven
namespace Go.Proofs.YtacfdddghdnboaaGreatDoor
namespace Rows

/-- THE TIED CARD OF 'muntinlaw06.MachJumps'. -/
def machJumpsCard : Claim7 := { stood := { row := machJumpsRow, standIns := [], harness := (true, "42be61142463d9f5b0713572121616332821fe37d2aff0cb9e2e784330032d9c"), looks := false }, kinds := [], alts := [], laidByText := true, laidKinds := [.data, .data], laidTests := true, laidLooks := .later }
def MachJumpsCardSaid : Prop := Claim7.holds Tryz.pinned (.plain (OpenSpec.ofChange machJumpsSpec)) machJumpsCard

/-- THE TIED CARD OF 'muntinlaw06.MachTurns'. -/
def machTurnsCard : Claim7 := { stood := { row := machTurnsRow, standIns := [], harness := (true, "42be61142463d9f5b0713572121616332821fe37d2aff0cb9e2e784330032d9c"), looks := false }, kinds := [], alts := [], laidByText := true, laidKinds := [.data, .data], laidTests := true, laidLooks := .later }
def MachTurnsCardSaid : Prop := Claim7.holds Tryz.pinned (.plain (OpenSpec.ofChange machTurnsSpec)) machTurnsCard

/-- THE TIED CARD OF 'muntinlaw06.MachStands'. -/
def machStandsCard : Claim7 := { stood := { row := machStandsRow, standIns := [], harness := (true, "42be61142463d9f5b0713572121616332821fe37d2aff0cb9e2e784330032d9c"), looks := false }, kinds := [], alts := [], laidByText := true, laidKinds := [.data, .data], laidTests := true, laidLooks := .later }
def MachStandsCardSaid : Prop := Claim7.holds Tryz.pinned (.plain (OpenSpec.ofChange machStandsSpec)) machStandsCard

/-- THE TIED CARD OF 'muntinlaw06.MachNone'. -/
def machNoneCard : Claim7 := { stood := { row := machNoneRow, standIns := [], harness := (true, "42be61142463d9f5b0713572121616332821fe37d2aff0cb9e2e784330032d9c"), looks := false }, kinds := [], alts := [], laidByText := true, laidKinds := [.data, .data], laidTests := true, laidLooks := .later }
def MachNoneCardSaid : Prop := Claim7.holds Tryz.pinned (.plain (OpenSpec.ofChange machNoneSpec)) machNoneCard

/-- THE TIED CARD OF 'muntinlaw07.AsmConst'. -/
def asmConstCard : Claim7 := { stood := { row := asmConstRow, standIns := [], harness := (true, "42be61142463d9f5b0713572121616332821fe37d2aff0cb9e2e784330032d9c"), looks := false }, kinds := [], alts := [], laidByText := true, laidKinds := [.data, .data], laidTests := true, laidLooks := .later }
def AsmConstCardSaid : Prop := Claim7.holds Tryz.pinned (.plain (OpenSpec.ofChange asmConstSpec)) asmConstCard

/-- THE TIED CARD OF 'muntinlaw06.MachSteps'. -/
def machStepsCard : Claim7 := { stood := { row := machStepsRow, standIns := [], harness := (true, "42be61142463d9f5b0713572121616332821fe37d2aff0cb9e2e784330032d9c"), looks := false }, kinds := [], alts := [], laidByText := true, laidKinds := [.data, .data], laidTests := true, laidLooks := .later }
def MachStepsCardSaid : Prop := Claim7.holds Tryz.pinned (.plain (OpenSpec.ofChange machStepsSpec)) machStepsCard

/-- THE TIED CARD OF 'muntinlaw06.MachReturns'. -/
def machReturnsCard : Claim7 := { stood := { row := machReturnsRow, standIns := [], harness := (true, "42be61142463d9f5b0713572121616332821fe37d2aff0cb9e2e784330032d9c"), looks := false }, kinds := [], alts := [], laidByText := true, laidKinds := [.data, .data], laidTests := true, laidLooks := .later }
def MachReturnsCardSaid : Prop := Claim7.holds Tryz.pinned (.plain (OpenSpec.ofChange machReturnsSpec)) machReturnsCard

/-- THE TIED CARD OF 'muntinlaw06.MachLess'. -/
def machLessCard : Claim7 := { stood := { row := machLessRow, standIns := [], harness := (true, "42be61142463d9f5b0713572121616332821fe37d2aff0cb9e2e784330032d9c"), looks := false }, kinds := [], alts := [], laidByText := true, laidKinds := [.data, .data], laidTests := true, laidLooks := .later }
def MachLessCardSaid : Prop := Claim7.holds Tryz.pinned (.plain (OpenSpec.ofChange machLessSpec)) machLessCard

/-- THE SECOND FORM's CARD OF 'muntinlaw06.MachJumps'. -/
def machJumpsUptoCard : Claim7 := { stood := { row := machJumpsUptoRow, standIns := [], harness := (true, "42be61142463d9f5b0713572121616332821fe37d2aff0cb9e2e784330032d9c"), looks := false }, kinds := [], alts := [], laidByText := true, laidKinds := [.data, .data], laidTests := true, laidLooks := .later }
def MachJumpsUptoCardSaid : Prop := Claim7.holds Tryz.pinned (.plain (OpenSpec.upto machJumpsSpec)) machJumpsUptoCard

/-- THE SECOND FORM's CARD OF 'muntinlaw06.MachTurns'. -/
def machTurnsUptoCard : Claim7 := { stood := { row := machTurnsUptoRow, standIns := [], harness := (true, "42be61142463d9f5b0713572121616332821fe37d2aff0cb9e2e784330032d9c"), looks := false }, kinds := [], alts := [], laidByText := true, laidKinds := [.data, .data], laidTests := true, laidLooks := .later }
def MachTurnsUptoCardSaid : Prop := Claim7.holds Tryz.pinned (.plain (OpenSpec.upto machTurnsSpec)) machTurnsUptoCard

/-- THE SECOND FORM's CARD OF 'muntinlaw06.MachStands'. -/
def machStandsUptoCard : Claim7 := { stood := { row := machStandsUptoRow, standIns := [], harness := (true, "42be61142463d9f5b0713572121616332821fe37d2aff0cb9e2e784330032d9c"), looks := false }, kinds := [], alts := [], laidByText := true, laidKinds := [.data, .data], laidTests := true, laidLooks := .later }
def MachStandsUptoCardSaid : Prop := Claim7.holds Tryz.pinned (.plain (OpenSpec.upto machStandsSpec)) machStandsUptoCard

/-- THE SECOND FORM's CARD OF 'muntinlaw06.MachNone'. -/
def machNoneUptoCard : Claim7 := { stood := { row := machNoneUptoRow, standIns := [], harness := (true, "42be61142463d9f5b0713572121616332821fe37d2aff0cb9e2e784330032d9c"), looks := false }, kinds := [], alts := [], laidByText := true, laidKinds := [.data, .data], laidTests := true, laidLooks := .later }
def MachNoneUptoCardSaid : Prop := Claim7.holds Tryz.pinned (.plain (OpenSpec.upto machNoneSpec)) machNoneUptoCard

/-- THE SECOND FORM's CARD OF 'muntinlaw07.AsmConst'. -/
def asmConstUptoCard : Claim7 := { stood := { row := asmConstUptoRow, standIns := [], harness := (true, "42be61142463d9f5b0713572121616332821fe37d2aff0cb9e2e784330032d9c"), looks := false }, kinds := [], alts := [], laidByText := true, laidKinds := [.data, .data], laidTests := true, laidLooks := .later }
def AsmConstUptoCardSaid : Prop := Claim7.holds Tryz.pinned (.plain (OpenSpec.upto asmConstSpec)) asmConstUptoCard

/-- THE SECOND FORM's CARD OF 'muntinlaw06.MachSteps'. -/
def machStepsUptoCard : Claim7 := { stood := { row := machStepsUptoRow, standIns := [], harness := (true, "42be61142463d9f5b0713572121616332821fe37d2aff0cb9e2e784330032d9c"), looks := false }, kinds := [], alts := [], laidByText := true, laidKinds := [.data, .data], laidTests := true, laidLooks := .later }
def MachStepsUptoCardSaid : Prop := Claim7.holds Tryz.pinned (.plain (OpenSpec.upto machStepsSpec)) machStepsUptoCard

/-- THE SECOND FORM's CARD OF 'muntinlaw06.MachReturns'. -/
def machReturnsUptoCard : Claim7 := { stood := { row := machReturnsUptoRow, standIns := [], harness := (true, "42be61142463d9f5b0713572121616332821fe37d2aff0cb9e2e784330032d9c"), looks := false }, kinds := [], alts := [], laidByText := true, laidKinds := [.data, .data], laidTests := true, laidLooks := .later }
def MachReturnsUptoCardSaid : Prop := Claim7.holds Tryz.pinned (.plain (OpenSpec.upto machReturnsSpec)) machReturnsUptoCard

/-- THE SECOND FORM's CARD OF 'muntinlaw06.MachLess'. -/
def machLessUptoCard : Claim7 := { stood := { row := machLessUptoRow, standIns := [], harness := (true, "42be61142463d9f5b0713572121616332821fe37d2aff0cb9e2e784330032d9c"), looks := false }, kinds := [], alts := [], laidByText := true, laidKinds := [.data, .data], laidTests := true, laidLooks := .later }
def MachLessUptoCardSaid : Prop := Claim7.holds Tryz.pinned (.plain (OpenSpec.upto machLessSpec)) machLessUptoCard
end Rows
end Go.Proofs.YtacfdddghdnboaaGreatDoor
