/-
  DERIVED. GIVEN WITH THE SEED: THE CARDS: each row of YtpcihajmcejliabDoorRows.lean that lists a variable, with what it lists TIED to the program's text (the seventh form; the later family's looks); each row that meets fmt, with fmt's text TOLD by the authors' own Lean function (tested against real Go, not proved from fmt's source: count such statements apart). THE CARD IS WHAT COUNTS. Prove the row's statement (the work); the ties are given (YtpcihajmcejliabDoorTie.lean); close each card by the builder's one call (the guide's Derived/Test/ToyasCard.lean, 'card_holds'). Laid BY PROGRAM, IN A SANDBOX (cutbox-door.mjs). By AI agents, Wed Nov 11 2026. No macro, syntax, notation, axiom, sorry.
-/
import Derived.Test.YtpcihajmcejliabDoorRows
import GoSem.ClaimSeven
namespace Go.Proofs.YtpcihajmcejliabDoor
namespace Rows

/-- THE TIED CARD OF 'dryshodkeep.LinkStale'. -/
def linkStaleCard : Claim7 := { stood := { row := linkStaleRow, standIns := [], harness := (true, "6b7fb41d00c88987e02a75ebdb802986819a6337bb7ca71c5938741523c5e3ef"), looks := true }, kinds := [], alts := [], laidByText := true, laidKinds := [.data, .data, .data, .data, .sentinel, .sentinel, .pinned], laidTests := true, laidLooks := .later }
def LinkStaleCardSaid : Prop := Claim7.holds Tryd.pinned (.plain (OpenSpec.ofChange linkStaleSpec)) linkStaleCard

/-- THE SECOND FORM's CARD OF 'dryshodkeep.LinkStale'. -/
def linkStaleUptoCard : Claim7 := { stood := { row := linkStaleUptoRow, standIns := [], harness := (true, "6b7fb41d00c88987e02a75ebdb802986819a6337bb7ca71c5938741523c5e3ef"), looks := true }, kinds := [], alts := [], laidByText := true, laidKinds := [.data, .data, .data, .data, .sentinel, .sentinel, .pinned], laidTests := true, laidLooks := .later }
def LinkStaleUptoCardSaid : Prop := Claim7.holds Tryd.pinned (.plain (OpenSpec.upto linkStaleSpec)) linkStaleUptoCard
end Rows
end Go.Proofs.YtpcihajmcejliabDoor
