/-
  DERIVED. GIVEN WITH THE SEED: THE CARDS: each row of YtpcihajmcejliacGreatDoorRows.lean that lists a variable, with what it lists TIED to the program's text (the seventh form; the later family's looks); each row that meets fmt, with fmt's text TOLD by the authors' own Lean function (tested against real Go, not proved from fmt's source: count such statements apart). THE CARD IS WHAT COUNTS. Prove the row's statement (the work); the ties are given (YtpcihajmcejliacGreatDoorTie.lean); close each card by the builder's one call (the guide's Derived/Test/ToyasCard.lean, 'card_holds'). Laid BY PROGRAM, IN A SANDBOX (cutbox-door.mjs). By AI agents, Wed Nov 11 2026. No macro, syntax, notation, axiom, sorry.
-/
import Derived.Test.YtpcihajmcejliacGreatDoorRows
import GoSem.ClaimSeven
namespace Go.Proofs.YtpcihajmcejliacGreatDoor
namespace Rows

/-- THE TIED CARD OF 'dryshodkeep.SyntaxAgain'. -/
def syntaxAgainCard : Claim7 := { stood := { row := syntaxAgainRow, standIns := [], harness := (true, "3fed33fbe10f56f0163d12e715477e2af40146b7439a985c2b1d0a9062219c10"), looks := true }, kinds := [], alts := [], laidByText := true, laidKinds := [.data, .data, .data, .data, .sentinel, .sentinel, .pinned], laidTests := true, laidLooks := .later }
def SyntaxAgainCardSaid : Prop := Claim7.holds Tryz.pinned (.plain (OpenSpec.ofChange syntaxAgainSpec)) syntaxAgainCard

/-- THE TIED CARD OF 'dryshodkeep.CheckMore'. -/
def checkMoreCard : Claim7 := { stood := { row := checkMoreRow, standIns := [], harness := (true, "3fed33fbe10f56f0163d12e715477e2af40146b7439a985c2b1d0a9062219c10"), looks := true }, kinds := [], alts := [], laidByText := true, laidKinds := [.data, .data, .data, .data, .sentinel, .sentinel, .pinned], laidTests := true, laidLooks := .later }
def CheckMoreCardSaid : Prop := Claim7.holds Tryz.pinned (.plain (OpenSpec.ofChange checkMoreSpec)) checkMoreCard

/-- THE TIED CARD OF 'dryshodlaw.OrderTells'. -/
def orderTellsCard : Claim7 := { stood := { row := orderTellsRow, standIns := [], harness := (true, "3fed33fbe10f56f0163d12e715477e2af40146b7439a985c2b1d0a9062219c10"), looks := true }, kinds := [], alts := [], laidByText := true, laidKinds := [.data, .data, .data, .data, .sentinel, .sentinel, .pinned], laidTests := true, laidLooks := .later }
def OrderTellsCardSaid : Prop := Claim7.holds Tryz.pinned (.plain (OpenSpec.ofChange orderTellsSpec)) orderTellsCard

/-- THE TIED CARD OF 'dryshodkeep.OrderRises'. -/
def orderRisesCard : Claim7 := { stood := { row := orderRisesRow, standIns := [], harness := (true, "3fed33fbe10f56f0163d12e715477e2af40146b7439a985c2b1d0a9062219c10"), looks := true }, kinds := [], alts := [], laidByText := true, laidKinds := [.data, .data, .data, .data, .sentinel, .sentinel, .pinned], laidTests := true, laidLooks := .later }
def OrderRisesCardSaid : Prop := Claim7.holds Tryz.pinned (.plain (OpenSpec.ofChange orderRisesSpec)) orderRisesCard

/-- THE TIED CARD OF 'dryshodlaw.CompileSays'. -/
def compileSaysCard : Claim7 := { stood := { row := compileSaysRow, standIns := [], harness := (true, "3fed33fbe10f56f0163d12e715477e2af40146b7439a985c2b1d0a9062219c10"), looks := true }, kinds := [], alts := [], laidByText := true, laidKinds := [.data, .data, .data, .data, .sentinel, .sentinel, .pinned], laidTests := true, laidLooks := .later }
def CompileSaysCardSaid : Prop := Claim7.holds Tryz.pinned (.plain (OpenSpec.ofChange compileSaysSpec)) compileSaysCard

/-- THE TIED CARD OF 'dryshodlaw.ModelRuns'. -/
def modelRunsCard : Claim7 := { stood := { row := modelRunsRow, standIns := [], harness := (true, "3fed33fbe10f56f0163d12e715477e2af40146b7439a985c2b1d0a9062219c10"), looks := true }, kinds := [], alts := [], laidByText := true, laidKinds := [.data, .data, .data, .data, .sentinel, .sentinel, .pinned], laidTests := true, laidLooks := .later }
def ModelRunsCardSaid : Prop := Claim7.holds Tryz.pinned (.plain (OpenSpec.ofChange modelRunsSpec)) modelRunsCard

/-- THE TIED CARD OF 'dryshodkeep.ModelLonger'. -/
def modelLongerCard : Claim7 := { stood := { row := modelLongerRow, standIns := [], harness := (true, "3fed33fbe10f56f0163d12e715477e2af40146b7439a985c2b1d0a9062219c10"), looks := true }, kinds := [], alts := [], laidByText := true, laidKinds := [.data, .data, .data, .data, .sentinel, .sentinel, .pinned], laidTests := true, laidLooks := .later }
def ModelLongerCardSaid : Prop := Claim7.holds Tryz.pinned (.plain (OpenSpec.ofChange modelLongerSpec)) modelLongerCard

/-- THE TIED CARD OF 'dryshodkeep.ModelHides'. -/
def modelHidesCard : Claim7 := { stood := { row := modelHidesRow, standIns := [], harness := (true, "3fed33fbe10f56f0163d12e715477e2af40146b7439a985c2b1d0a9062219c10"), looks := true }, kinds := [], alts := [], laidByText := true, laidKinds := [.data, .data, .data, .data, .sentinel, .sentinel, .pinned], laidTests := true, laidLooks := .later }
def ModelHidesCardSaid : Prop := Claim7.holds Tryz.pinned (.plain (OpenSpec.ofChange modelHidesSpec)) modelHidesCard

/-- THE TIED CARD OF 'dryshodkeep.ModelTurns'. -/
def modelTurnsCard : Claim7 := { stood := { row := modelTurnsRow, standIns := [], harness := (true, "3fed33fbe10f56f0163d12e715477e2af40146b7439a985c2b1d0a9062219c10"), looks := true }, kinds := [], alts := [], laidByText := true, laidKinds := [.data, .data, .data, .data, .sentinel, .sentinel, .pinned], laidTests := true, laidLooks := .later }
def ModelTurnsCardSaid : Prop := Claim7.holds Tryz.pinned (.plain (OpenSpec.ofChange modelTurnsSpec)) modelTurnsCard

/-- THE TIED CARD OF 'dryshodkeep.CheckRaised'. -/
def checkRaisedCard : Claim7 := { stood := { row := checkRaisedRow, standIns := [], harness := (true, "3fed33fbe10f56f0163d12e715477e2af40146b7439a985c2b1d0a9062219c10"), looks := true }, kinds := [], alts := [], laidByText := true, laidKinds := [.data, .data, .data, .data, .sentinel, .sentinel, .pinned], laidTests := true, laidLooks := .later }
def CheckRaisedCardSaid : Prop := Claim7.holds Tryz.pinned (.plain (OpenSpec.ofChange checkRaisedSpec)) checkRaisedCard

/-- THE TIED CARD OF 'dryshodlaw.BuildMakes'. -/
def buildMakesCard : Claim7 := { stood := { row := buildMakesRow, standIns := [], harness := (true, "3fed33fbe10f56f0163d12e715477e2af40146b7439a985c2b1d0a9062219c10"), looks := true }, kinds := [], alts := [], laidByText := true, laidKinds := [.data, .data, .data, .data, .sentinel, .sentinel, .pinned], laidTests := true, laidLooks := .later }
def BuildMakesCardSaid : Prop := Claim7.holds Tryz.pinned (.plain (OpenSpec.ofChange buildMakesSpec)) buildMakesCard

/-- THE TIED CARD OF 'dryshodkeep.DriveTells'. -/
def driveTellsCard : Claim7 := { stood := { row := driveTellsRow, standIns := [], harness := (true, "3fed33fbe10f56f0163d12e715477e2af40146b7439a985c2b1d0a9062219c10"), looks := true }, kinds := [], alts := [], laidByText := true, laidKinds := [.data, .data, .data, .data, .sentinel, .sentinel, .data, .pinned], laidTests := true, laidLooks := .later }
def DriveTellsCardSaid : Prop := Claim7.holds Tryz.pinned (.plain (OpenSpec.ofChange driveTellsSpec)) driveTellsCard

/-- THE SECOND FORM's CARD OF 'dryshodkeep.SyntaxAgain'. -/
def syntaxAgainUptoCard : Claim7 := { stood := { row := syntaxAgainUptoRow, standIns := [], harness := (true, "3fed33fbe10f56f0163d12e715477e2af40146b7439a985c2b1d0a9062219c10"), looks := true }, kinds := [], alts := [], laidByText := true, laidKinds := [.data, .data, .data, .data, .sentinel, .sentinel, .pinned], laidTests := true, laidLooks := .later }
def SyntaxAgainUptoCardSaid : Prop := Claim7.holds Tryz.pinned (.plain (OpenSpec.upto syntaxAgainSpec)) syntaxAgainUptoCard

/-- THE SECOND FORM's CARD OF 'dryshodkeep.CheckMore'. -/
def checkMoreUptoCard : Claim7 := { stood := { row := checkMoreUptoRow, standIns := [], harness := (true, "3fed33fbe10f56f0163d12e715477e2af40146b7439a985c2b1d0a9062219c10"), looks := true }, kinds := [], alts := [], laidByText := true, laidKinds := [.data, .data, .data, .data, .sentinel, .sentinel, .pinned], laidTests := true, laidLooks := .later }
def CheckMoreUptoCardSaid : Prop := Claim7.holds Tryz.pinned (.plain (OpenSpec.upto checkMoreSpec)) checkMoreUptoCard

/-- THE SECOND FORM's CARD OF 'dryshodlaw.OrderTells'. -/
def orderTellsUptoCard : Claim7 := { stood := { row := orderTellsUptoRow, standIns := [], harness := (true, "3fed33fbe10f56f0163d12e715477e2af40146b7439a985c2b1d0a9062219c10"), looks := true }, kinds := [], alts := [], laidByText := true, laidKinds := [.data, .data, .data, .data, .sentinel, .sentinel, .pinned], laidTests := true, laidLooks := .later }
def OrderTellsUptoCardSaid : Prop := Claim7.holds Tryz.pinned (.plain (OpenSpec.upto orderTellsSpec)) orderTellsUptoCard

/-- THE SECOND FORM's CARD OF 'dryshodkeep.OrderRises'. -/
def orderRisesUptoCard : Claim7 := { stood := { row := orderRisesUptoRow, standIns := [], harness := (true, "3fed33fbe10f56f0163d12e715477e2af40146b7439a985c2b1d0a9062219c10"), looks := true }, kinds := [], alts := [], laidByText := true, laidKinds := [.data, .data, .data, .data, .sentinel, .sentinel, .pinned], laidTests := true, laidLooks := .later }
def OrderRisesUptoCardSaid : Prop := Claim7.holds Tryz.pinned (.plain (OpenSpec.upto orderRisesSpec)) orderRisesUptoCard

/-- THE SECOND FORM's CARD OF 'dryshodlaw.CompileSays'. -/
def compileSaysUptoCard : Claim7 := { stood := { row := compileSaysUptoRow, standIns := [], harness := (true, "3fed33fbe10f56f0163d12e715477e2af40146b7439a985c2b1d0a9062219c10"), looks := true }, kinds := [], alts := [], laidByText := true, laidKinds := [.data, .data, .data, .data, .sentinel, .sentinel, .pinned], laidTests := true, laidLooks := .later }
def CompileSaysUptoCardSaid : Prop := Claim7.holds Tryz.pinned (.plain (OpenSpec.upto compileSaysSpec)) compileSaysUptoCard

/-- THE SECOND FORM's CARD OF 'dryshodlaw.ModelRuns'. -/
def modelRunsUptoCard : Claim7 := { stood := { row := modelRunsUptoRow, standIns := [], harness := (true, "3fed33fbe10f56f0163d12e715477e2af40146b7439a985c2b1d0a9062219c10"), looks := true }, kinds := [], alts := [], laidByText := true, laidKinds := [.data, .data, .data, .data, .sentinel, .sentinel, .pinned], laidTests := true, laidLooks := .later }
def ModelRunsUptoCardSaid : Prop := Claim7.holds Tryz.pinned (.plain (OpenSpec.upto modelRunsSpec)) modelRunsUptoCard

/-- THE SECOND FORM's CARD OF 'dryshodkeep.ModelLonger'. -/
def modelLongerUptoCard : Claim7 := { stood := { row := modelLongerUptoRow, standIns := [], harness := (true, "3fed33fbe10f56f0163d12e715477e2af40146b7439a985c2b1d0a9062219c10"), looks := true }, kinds := [], alts := [], laidByText := true, laidKinds := [.data, .data, .data, .data, .sentinel, .sentinel, .pinned], laidTests := true, laidLooks := .later }
def ModelLongerUptoCardSaid : Prop := Claim7.holds Tryz.pinned (.plain (OpenSpec.upto modelLongerSpec)) modelLongerUptoCard

/-- THE SECOND FORM's CARD OF 'dryshodkeep.ModelHides'. -/
def modelHidesUptoCard : Claim7 := { stood := { row := modelHidesUptoRow, standIns := [], harness := (true, "3fed33fbe10f56f0163d12e715477e2af40146b7439a985c2b1d0a9062219c10"), looks := true }, kinds := [], alts := [], laidByText := true, laidKinds := [.data, .data, .data, .data, .sentinel, .sentinel, .pinned], laidTests := true, laidLooks := .later }
def ModelHidesUptoCardSaid : Prop := Claim7.holds Tryz.pinned (.plain (OpenSpec.upto modelHidesSpec)) modelHidesUptoCard

/-- THE SECOND FORM's CARD OF 'dryshodkeep.ModelTurns'. -/
def modelTurnsUptoCard : Claim7 := { stood := { row := modelTurnsUptoRow, standIns := [], harness := (true, "3fed33fbe10f56f0163d12e715477e2af40146b7439a985c2b1d0a9062219c10"), looks := true }, kinds := [], alts := [], laidByText := true, laidKinds := [.data, .data, .data, .data, .sentinel, .sentinel, .pinned], laidTests := true, laidLooks := .later }
def ModelTurnsUptoCardSaid : Prop := Claim7.holds Tryz.pinned (.plain (OpenSpec.upto modelTurnsSpec)) modelTurnsUptoCard

/-- THE SECOND FORM's CARD OF 'dryshodkeep.CheckRaised'. -/
def checkRaisedUptoCard : Claim7 := { stood := { row := checkRaisedUptoRow, standIns := [], harness := (true, "3fed33fbe10f56f0163d12e715477e2af40146b7439a985c2b1d0a9062219c10"), looks := true }, kinds := [], alts := [], laidByText := true, laidKinds := [.data, .data, .data, .data, .sentinel, .sentinel, .pinned], laidTests := true, laidLooks := .later }
def CheckRaisedUptoCardSaid : Prop := Claim7.holds Tryz.pinned (.plain (OpenSpec.upto checkRaisedSpec)) checkRaisedUptoCard

/-- THE SECOND FORM's CARD OF 'dryshodlaw.BuildMakes'. -/
def buildMakesUptoCard : Claim7 := { stood := { row := buildMakesUptoRow, standIns := [], harness := (true, "3fed33fbe10f56f0163d12e715477e2af40146b7439a985c2b1d0a9062219c10"), looks := true }, kinds := [], alts := [], laidByText := true, laidKinds := [.data, .data, .data, .data, .sentinel, .sentinel, .pinned], laidTests := true, laidLooks := .later }
def BuildMakesUptoCardSaid : Prop := Claim7.holds Tryz.pinned (.plain (OpenSpec.upto buildMakesSpec)) buildMakesUptoCard

/-- THE SECOND FORM's CARD OF 'dryshodkeep.DriveTells'. -/
def driveTellsUptoCard : Claim7 := { stood := { row := driveTellsUptoRow, standIns := [], harness := (true, "3fed33fbe10f56f0163d12e715477e2af40146b7439a985c2b1d0a9062219c10"), looks := true }, kinds := [], alts := [], laidByText := true, laidKinds := [.data, .data, .data, .data, .sentinel, .sentinel, .data, .pinned], laidTests := true, laidLooks := .later }
def DriveTellsUptoCardSaid : Prop := Claim7.holds Tryz.pinned (.plain (OpenSpec.upto driveTellsSpec)) driveTellsUptoCard
end Rows
end Go.Proofs.YtpcihajmcejliacGreatDoor
