/-
  DERIVED. GIVEN WITH THE SEED: THE CARDS: each row of YtpcihajmcejliabGreatDoorRows.lean that lists a variable, with what it lists TIED to the program's text (the seventh form; the later family's looks); each row that meets fmt, with fmt's text TOLD by the authors' own Lean function (tested against real Go, not proved from fmt's source: count such statements apart). THE CARD IS WHAT COUNTS. Prove the row's statement (the work); the ties are given (YtpcihajmcejliabGreatDoorTie.lean); close each card by the builder's one call (the guide's Derived/Test/ToyasCard.lean, 'card_holds'). Laid BY PROGRAM, IN A SANDBOX (cutbox-door.mjs). By AI agents, Wed Nov 11 2026. No macro, syntax, notation, axiom, sorry.
-/
import Derived.Test.YtpcihajmcejliabGreatDoorRows
import GoSem.ClaimSeven
namespace Go.Proofs.YtpcihajmcejliabGreatDoor
namespace Rows

/-- THE TIED CARD OF 'dryshodlaw.LinkMakes'. -/
def linkMakesCard : Claim7 := { stood := { row := linkMakesRow, standIns := [], harness := (true, "4050594536c3b4fb518ba4fe99a43dd0999a99ec5f64d5e7f739c26a4b5455e8"), looks := true }, kinds := [], alts := [], laidByText := true, laidKinds := [.data, .data, .data, .data, .sentinel, .sentinel, .pinned], laidTests := true, laidLooks := .later }
def LinkMakesCardSaid : Prop := Claim7.holds Tryz.pinned (.plain (OpenSpec.ofChange linkMakesSpec)) linkMakesCard

/-- THE TIED CARD OF 'dryshodtop.TopHides'. -/
def topHidesCard : Claim7 := { stood := { row := topHidesRow, standIns := [], harness := (true, "4050594536c3b4fb518ba4fe99a43dd0999a99ec5f64d5e7f739c26a4b5455e8"), looks := true }, kinds := [], alts := [], laidByText := true, laidKinds := [.data, .data, .data, .data, .sentinel, .sentinel, .pinned], laidTests := true, laidLooks := .later }
def TopHidesCardSaid : Prop := Claim7.holds Tryz.pinned (.plain (OpenSpec.ofChange topHidesSpec)) topHidesCard

/-- THE TIED CARD OF 'dryshodkeep.ObjectBack'. -/
def objectBackCard : Claim7 := { stood := { row := objectBackRow, standIns := [], harness := (true, "4050594536c3b4fb518ba4fe99a43dd0999a99ec5f64d5e7f739c26a4b5455e8"), looks := true }, kinds := [], alts := [], laidByText := true, laidKinds := [.data, .data, .data, .data, .sentinel, .sentinel, .pinned], laidTests := true, laidLooks := .later }
def ObjectBackCardSaid : Prop := Claim7.holds Tryz.pinned (.plain (OpenSpec.ofChange objectBackSpec)) objectBackCard

/-- THE TIED CARD OF 'dryshodlaw.SyntaxParses'. -/
def syntaxParsesCard : Claim7 := { stood := { row := syntaxParsesRow, standIns := [], harness := (true, "4050594536c3b4fb518ba4fe99a43dd0999a99ec5f64d5e7f739c26a4b5455e8"), looks := true }, kinds := [], alts := [], laidByText := true, laidKinds := [.data, .data, .data, .data, .sentinel, .sentinel, .pinned], laidTests := true, laidLooks := .later }
def SyntaxParsesCardSaid : Prop := Claim7.holds Tryz.pinned (.plain (OpenSpec.ofChange syntaxParsesSpec)) syntaxParsesCard

/-- THE TIED CARD OF 'dryshodlaw.SyntaxPrints'. -/
def syntaxPrintsCard : Claim7 := { stood := { row := syntaxPrintsRow, standIns := [], harness := (true, "4050594536c3b4fb518ba4fe99a43dd0999a99ec5f64d5e7f739c26a4b5455e8"), looks := true }, kinds := [], alts := [], laidByText := true, laidKinds := [.data, .data, .data, .data, .sentinel, .sentinel, .pinned], laidTests := true, laidLooks := .later }
def SyntaxPrintsCardSaid : Prop := Claim7.holds Tryz.pinned (.plain (OpenSpec.ofChange syntaxPrintsSpec)) syntaxPrintsCard

/-- THE TIED CARD OF 'dryshodtop.TopSilent'. -/
def topSilentCard : Claim7 := { stood := { row := topSilentRow, standIns := [], harness := (true, "4050594536c3b4fb518ba4fe99a43dd0999a99ec5f64d5e7f739c26a4b5455e8"), looks := true }, kinds := [], alts := [], laidByText := true, laidKinds := [.data, .data, .data, .data, .sentinel, .sentinel, .pinned], laidTests := true, laidLooks := .later }
def TopSilentCardSaid : Prop := Claim7.holds Tryz.pinned (.plain (OpenSpec.ofChange topSilentSpec)) topSilentCard

/-- THE TIED CARD OF 'dryshodlaw.FaceTells'. -/
def faceTellsCard : Claim7 := { stood := { row := faceTellsRow, standIns := [], harness := (true, "4050594536c3b4fb518ba4fe99a43dd0999a99ec5f64d5e7f739c26a4b5455e8"), looks := true }, kinds := [], alts := [], laidByText := true, laidKinds := [.data, .data, .data, .data, .sentinel, .sentinel, .pinned], laidTests := true, laidLooks := .later }
def FaceTellsCardSaid : Prop := Claim7.holds Tryz.pinned (.plain (OpenSpec.ofChange faceTellsSpec)) faceTellsCard

/-- THE TIED CARD OF 'dryshodkeep.FaceOwn'. -/
def faceOwnCard : Claim7 := { stood := { row := faceOwnRow, standIns := [], harness := (true, "4050594536c3b4fb518ba4fe99a43dd0999a99ec5f64d5e7f739c26a4b5455e8"), looks := true }, kinds := [], alts := [], laidByText := true, laidKinds := [.data, .data, .data, .data, .sentinel, .sentinel, .pinned], laidTests := true, laidLooks := .later }
def FaceOwnCardSaid : Prop := Claim7.holds Tryz.pinned (.plain (OpenSpec.ofChange faceOwnSpec)) faceOwnCard

/-- THE TIED CARD OF 'dryshodlaw.CheckTells'. -/
def checkTellsCard : Claim7 := { stood := { row := checkTellsRow, standIns := [], harness := (true, "4050594536c3b4fb518ba4fe99a43dd0999a99ec5f64d5e7f739c26a4b5455e8"), looks := true }, kinds := [], alts := [], laidByText := true, laidKinds := [.data, .data, .data, .data, .sentinel, .sentinel, .pinned], laidTests := true, laidLooks := .later }
def CheckTellsCardSaid : Prop := Claim7.holds Tryz.pinned (.plain (OpenSpec.ofChange checkTellsSpec)) checkTellsCard

/-- THE TIED CARD OF 'dryshodkeep.CheckLow'. -/
def checkLowCard : Claim7 := { stood := { row := checkLowRow, standIns := [], harness := (true, "4050594536c3b4fb518ba4fe99a43dd0999a99ec5f64d5e7f739c26a4b5455e8"), looks := true }, kinds := [], alts := [], laidByText := true, laidKinds := [.data, .data, .data, .data, .sentinel, .sentinel, .pinned], laidTests := true, laidLooks := .later }
def CheckLowCardSaid : Prop := Claim7.holds Tryz.pinned (.plain (OpenSpec.ofChange checkLowSpec)) checkLowCard

/-- THE TIED CARD OF 'dryshodkeep.SyntaxBack'. -/
def syntaxBackCard : Claim7 := { stood := { row := syntaxBackRow, standIns := [], harness := (true, "4050594536c3b4fb518ba4fe99a43dd0999a99ec5f64d5e7f739c26a4b5455e8"), looks := true }, kinds := [], alts := [], laidByText := true, laidKinds := [.data, .data, .data, .data, .sentinel, .sentinel, .pinned], laidTests := true, laidLooks := .later }
def SyntaxBackCardSaid : Prop := Claim7.holds Tryz.pinned (.plain (OpenSpec.ofChange syntaxBackSpec)) syntaxBackCard

/-- THE SECOND FORM's CARD OF 'dryshodlaw.LinkMakes'. -/
def linkMakesUptoCard : Claim7 := { stood := { row := linkMakesUptoRow, standIns := [], harness := (true, "4050594536c3b4fb518ba4fe99a43dd0999a99ec5f64d5e7f739c26a4b5455e8"), looks := true }, kinds := [], alts := [], laidByText := true, laidKinds := [.data, .data, .data, .data, .sentinel, .sentinel, .pinned], laidTests := true, laidLooks := .later }
def LinkMakesUptoCardSaid : Prop := Claim7.holds Tryz.pinned (.plain (OpenSpec.upto linkMakesSpec)) linkMakesUptoCard

/-- THE SECOND FORM's CARD OF 'dryshodtop.TopHides'. -/
def topHidesUptoCard : Claim7 := { stood := { row := topHidesUptoRow, standIns := [], harness := (true, "4050594536c3b4fb518ba4fe99a43dd0999a99ec5f64d5e7f739c26a4b5455e8"), looks := true }, kinds := [], alts := [], laidByText := true, laidKinds := [.data, .data, .data, .data, .sentinel, .sentinel, .pinned], laidTests := true, laidLooks := .later }
def TopHidesUptoCardSaid : Prop := Claim7.holds Tryz.pinned (.plain (OpenSpec.upto topHidesSpec)) topHidesUptoCard

/-- THE SECOND FORM's CARD OF 'dryshodkeep.ObjectBack'. -/
def objectBackUptoCard : Claim7 := { stood := { row := objectBackUptoRow, standIns := [], harness := (true, "4050594536c3b4fb518ba4fe99a43dd0999a99ec5f64d5e7f739c26a4b5455e8"), looks := true }, kinds := [], alts := [], laidByText := true, laidKinds := [.data, .data, .data, .data, .sentinel, .sentinel, .pinned], laidTests := true, laidLooks := .later }
def ObjectBackUptoCardSaid : Prop := Claim7.holds Tryz.pinned (.plain (OpenSpec.upto objectBackSpec)) objectBackUptoCard

/-- THE SECOND FORM's CARD OF 'dryshodlaw.SyntaxParses'. -/
def syntaxParsesUptoCard : Claim7 := { stood := { row := syntaxParsesUptoRow, standIns := [], harness := (true, "4050594536c3b4fb518ba4fe99a43dd0999a99ec5f64d5e7f739c26a4b5455e8"), looks := true }, kinds := [], alts := [], laidByText := true, laidKinds := [.data, .data, .data, .data, .sentinel, .sentinel, .pinned], laidTests := true, laidLooks := .later }
def SyntaxParsesUptoCardSaid : Prop := Claim7.holds Tryz.pinned (.plain (OpenSpec.upto syntaxParsesSpec)) syntaxParsesUptoCard

/-- THE SECOND FORM's CARD OF 'dryshodlaw.SyntaxPrints'. -/
def syntaxPrintsUptoCard : Claim7 := { stood := { row := syntaxPrintsUptoRow, standIns := [], harness := (true, "4050594536c3b4fb518ba4fe99a43dd0999a99ec5f64d5e7f739c26a4b5455e8"), looks := true }, kinds := [], alts := [], laidByText := true, laidKinds := [.data, .data, .data, .data, .sentinel, .sentinel, .pinned], laidTests := true, laidLooks := .later }
def SyntaxPrintsUptoCardSaid : Prop := Claim7.holds Tryz.pinned (.plain (OpenSpec.upto syntaxPrintsSpec)) syntaxPrintsUptoCard

/-- THE SECOND FORM's CARD OF 'dryshodtop.TopSilent'. -/
def topSilentUptoCard : Claim7 := { stood := { row := topSilentUptoRow, standIns := [], harness := (true, "4050594536c3b4fb518ba4fe99a43dd0999a99ec5f64d5e7f739c26a4b5455e8"), looks := true }, kinds := [], alts := [], laidByText := true, laidKinds := [.data, .data, .data, .data, .sentinel, .sentinel, .pinned], laidTests := true, laidLooks := .later }
def TopSilentUptoCardSaid : Prop := Claim7.holds Tryz.pinned (.plain (OpenSpec.upto topSilentSpec)) topSilentUptoCard

/-- THE SECOND FORM's CARD OF 'dryshodlaw.FaceTells'. -/
def faceTellsUptoCard : Claim7 := { stood := { row := faceTellsUptoRow, standIns := [], harness := (true, "4050594536c3b4fb518ba4fe99a43dd0999a99ec5f64d5e7f739c26a4b5455e8"), looks := true }, kinds := [], alts := [], laidByText := true, laidKinds := [.data, .data, .data, .data, .sentinel, .sentinel, .pinned], laidTests := true, laidLooks := .later }
def FaceTellsUptoCardSaid : Prop := Claim7.holds Tryz.pinned (.plain (OpenSpec.upto faceTellsSpec)) faceTellsUptoCard

/-- THE SECOND FORM's CARD OF 'dryshodkeep.FaceOwn'. -/
def faceOwnUptoCard : Claim7 := { stood := { row := faceOwnUptoRow, standIns := [], harness := (true, "4050594536c3b4fb518ba4fe99a43dd0999a99ec5f64d5e7f739c26a4b5455e8"), looks := true }, kinds := [], alts := [], laidByText := true, laidKinds := [.data, .data, .data, .data, .sentinel, .sentinel, .pinned], laidTests := true, laidLooks := .later }
def FaceOwnUptoCardSaid : Prop := Claim7.holds Tryz.pinned (.plain (OpenSpec.upto faceOwnSpec)) faceOwnUptoCard

/-- THE SECOND FORM's CARD OF 'dryshodlaw.CheckTells'. -/
def checkTellsUptoCard : Claim7 := { stood := { row := checkTellsUptoRow, standIns := [], harness := (true, "4050594536c3b4fb518ba4fe99a43dd0999a99ec5f64d5e7f739c26a4b5455e8"), looks := true }, kinds := [], alts := [], laidByText := true, laidKinds := [.data, .data, .data, .data, .sentinel, .sentinel, .pinned], laidTests := true, laidLooks := .later }
def CheckTellsUptoCardSaid : Prop := Claim7.holds Tryz.pinned (.plain (OpenSpec.upto checkTellsSpec)) checkTellsUptoCard

/-- THE SECOND FORM's CARD OF 'dryshodkeep.CheckLow'. -/
def checkLowUptoCard : Claim7 := { stood := { row := checkLowUptoRow, standIns := [], harness := (true, "4050594536c3b4fb518ba4fe99a43dd0999a99ec5f64d5e7f739c26a4b5455e8"), looks := true }, kinds := [], alts := [], laidByText := true, laidKinds := [.data, .data, .data, .data, .sentinel, .sentinel, .pinned], laidTests := true, laidLooks := .later }
def CheckLowUptoCardSaid : Prop := Claim7.holds Tryz.pinned (.plain (OpenSpec.upto checkLowSpec)) checkLowUptoCard

/-- THE SECOND FORM's CARD OF 'dryshodkeep.SyntaxBack'. -/
def syntaxBackUptoCard : Claim7 := { stood := { row := syntaxBackUptoRow, standIns := [], harness := (true, "4050594536c3b4fb518ba4fe99a43dd0999a99ec5f64d5e7f739c26a4b5455e8"), looks := true }, kinds := [], alts := [], laidByText := true, laidKinds := [.data, .data, .data, .data, .sentinel, .sentinel, .pinned], laidTests := true, laidLooks := .later }
def SyntaxBackUptoCardSaid : Prop := Claim7.holds Tryz.pinned (.plain (OpenSpec.upto syntaxBackSpec)) syntaxBackUptoCard
end Rows
end Go.Proofs.YtpcihajmcejliabGreatDoor
