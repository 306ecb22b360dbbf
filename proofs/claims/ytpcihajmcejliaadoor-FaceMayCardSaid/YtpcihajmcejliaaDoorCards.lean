/-
  DERIVED. GIVEN WITH THE SEED: THE CARDS: each row of YtpcihajmcejliaaDoorRows.lean that lists a variable, with what it lists TIED to the program's text (the seventh form; the later family's looks); each row that meets fmt, with fmt's text TOLD by the authors' own Lean function (tested against real Go, not proved from fmt's source: count such statements apart). THE CARD IS WHAT COUNTS. Prove the row's statement (the work); the ties are given (YtpcihajmcejliaaDoorTie.lean); close each card by the builder's one call (the guide's Derived/Test/ToyasCard.lean, 'card_holds'). Laid BY PROGRAM, IN A SANDBOX (cutbox-door.mjs). By AI agents, Wed Nov 11 2026. No macro, syntax, notation, axiom, sorry.
-/
import Derived.Test.YtpcihajmcejliaaDoorRows
import GoSem.ClaimSeven
namespace Go.Proofs.YtpcihajmcejliaaDoor
namespace Rows

/-- THE TIED CARD OF 'dryshodlaw.LexTells'. -/
def lexTellsCard : Claim7 := { stood := { row := lexTellsRow, standIns := [], harness := (true, "f01ea4af7250f619f6c765682ad9a4b5c7ba37f54d72cb2d93c61e44aee60039"), looks := true }, kinds := [], alts := [], laidByText := true, laidKinds := [.data, .data, .data, .data, .sentinel, .sentinel, .pinned], laidTests := true, laidLooks := .later }
def LexTellsCardSaid : Prop := Claim7.holds Tryd.pinned (.plain (OpenSpec.ofChange lexTellsSpec)) lexTellsCard

/-- THE TIED CARD OF 'dryshodkeep.LexAgain'. -/
def lexAgainCard : Claim7 := { stood := { row := lexAgainRow, standIns := [], harness := (true, "f01ea4af7250f619f6c765682ad9a4b5c7ba37f54d72cb2d93c61e44aee60039"), looks := true }, kinds := [], alts := [], laidByText := true, laidKinds := [.data, .data, .data, .data, .sentinel, .sentinel, .pinned], laidTests := true, laidLooks := .later }
def LexAgainCardSaid : Prop := Claim7.holds Tryd.pinned (.plain (OpenSpec.ofChange lexAgainSpec)) lexAgainCard

/-- THE TIED CARD OF 'dryshodlaw.FaceMay'. -/
def faceMayCard : Claim7 := { stood := { row := faceMayRow, standIns := [], harness := (true, "f01ea4af7250f619f6c765682ad9a4b5c7ba37f54d72cb2d93c61e44aee60039"), looks := true }, kinds := [], alts := [], laidByText := true, laidKinds := [.data, .data, .data, .data, .sentinel, .sentinel, .pinned], laidTests := true, laidLooks := .later }
def FaceMayCardSaid : Prop := Claim7.holds Tryd.pinned (.plain (OpenSpec.ofChange faceMaySpec)) faceMayCard

/-- THE SECOND FORM's CARD OF 'dryshodlaw.LexTells'. -/
def lexTellsUptoCard : Claim7 := { stood := { row := lexTellsUptoRow, standIns := [], harness := (true, "f01ea4af7250f619f6c765682ad9a4b5c7ba37f54d72cb2d93c61e44aee60039"), looks := true }, kinds := [], alts := [], laidByText := true, laidKinds := [.data, .data, .data, .data, .sentinel, .sentinel, .pinned], laidTests := true, laidLooks := .later }
def LexTellsUptoCardSaid : Prop := Claim7.holds Tryd.pinned (.plain (OpenSpec.upto lexTellsSpec)) lexTellsUptoCard

/-- THE SECOND FORM's CARD OF 'dryshodkeep.LexAgain'. -/
def lexAgainUptoCard : Claim7 := { stood := { row := lexAgainUptoRow, standIns := [], harness := (true, "f01ea4af7250f619f6c765682ad9a4b5c7ba37f54d72cb2d93c61e44aee60039"), looks := true }, kinds := [], alts := [], laidByText := true, laidKinds := [.data, .data, .data, .data, .sentinel, .sentinel, .pinned], laidTests := true, laidLooks := .later }
def LexAgainUptoCardSaid : Prop := Claim7.holds Tryd.pinned (.plain (OpenSpec.upto lexAgainSpec)) lexAgainUptoCard

/-- THE SECOND FORM's CARD OF 'dryshodlaw.FaceMay'. -/
def faceMayUptoCard : Claim7 := { stood := { row := faceMayUptoRow, standIns := [], harness := (true, "f01ea4af7250f619f6c765682ad9a4b5c7ba37f54d72cb2d93c61e44aee60039"), looks := true }, kinds := [], alts := [], laidByText := true, laidKinds := [.data, .data, .data, .data, .sentinel, .sentinel, .pinned], laidTests := true, laidLooks := .later }
def FaceMayUptoCardSaid : Prop := Claim7.holds Tryd.pinned (.plain (OpenSpec.upto faceMaySpec)) faceMayUptoCard
end Rows
end Go.Proofs.YtpcihajmcejliaaDoor
