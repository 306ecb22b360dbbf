/-
  DERIVED. GIVEN WITH THE SEED: THE CARDS: each row of YtpcihajmcejliaaGreatDoorRows.lean that lists a variable, with what it lists TIED to the program's text (the seventh form; the later family's looks); each row that meets fmt, with fmt's text TOLD by the authors' own Lean function (tested against real Go, not proved from fmt's source: count such statements apart). THE CARD IS WHAT COUNTS. Prove the row's statement (the work); the ties are given (YtpcihajmcejliaaGreatDoorTie.lean); close each card by the builder's one call (the guide's Derived/Test/ToyasCard.lean, 'card_holds'). Laid BY PROGRAM, IN A SANDBOX (cutbox-door.mjs). By AI agents, Wed Nov 11 2026. No macro, syntax, notation, axiom, sorry.
-/
import Derived.Test.YtpcihajmcejliaaGreatDoorRows
import GoSem.ClaimSeven
namespace Go.Proofs.YtpcihajmcejliaaGreatDoor
namespace Rows

/-- THE TIED CARD OF 'dryshodlaw.ObjectPuts'. -/
def objectPutsCard : Claim7 := { stood := { row := objectPutsRow, standIns := [], harness := (true, "e80b958ef0a99e96eae1e768e9bae53d2249e4d572ae06ce76866c605e170d4f"), looks := true }, kinds := [], alts := [], laidByText := true, laidKinds := [.data, .data, .data, .data, .sentinel, .sentinel, .pinned], laidTests := true, laidLooks := .later }
def ObjectPutsCardSaid : Prop := Claim7.holds Tryz.pinned (.plain (OpenSpec.ofChange objectPutsSpec)) objectPutsCard

/-- THE TIED CARD OF 'dryshodtop.TopMeans'. -/
def topMeansCard : Claim7 := { stood := { row := topMeansRow, standIns := [], harness := (true, "e80b958ef0a99e96eae1e768e9bae53d2249e4d572ae06ce76866c605e170d4f"), looks := true }, kinds := [], alts := [], laidByText := true, laidKinds := [.data, .data, .data, .data, .sentinel, .sentinel, .pinned], laidTests := true, laidLooks := .later }
def TopMeansCardSaid : Prop := Claim7.holds Tryz.pinned (.plain (OpenSpec.ofChange topMeansSpec)) topMeansCard

/-- THE TIED CARD OF 'dryshodkeep.ObjectOne'. -/
def objectOneCard : Claim7 := { stood := { row := objectOneRow, standIns := [], harness := (true, "e80b958ef0a99e96eae1e768e9bae53d2249e4d572ae06ce76866c605e170d4f"), looks := true }, kinds := [], alts := [], laidByText := true, laidKinds := [.data, .data, .data, .data, .sentinel, .sentinel, .pinned], laidTests := true, laidLooks := .later }
def ObjectOneCardSaid : Prop := Claim7.holds Tryz.pinned (.plain (OpenSpec.ofChange objectOneSpec)) objectOneCard

/-- THE TIED CARD OF 'dryshodlaw.ObjectGets'. -/
def objectGetsCard : Claim7 := { stood := { row := objectGetsRow, standIns := [], harness := (true, "e80b958ef0a99e96eae1e768e9bae53d2249e4d572ae06ce76866c605e170d4f"), looks := true }, kinds := [], alts := [], laidByText := true, laidKinds := [.data, .data, .data, .data, .sentinel, .sentinel, .pinned], laidTests := true, laidLooks := .later }
def ObjectGetsCardSaid : Prop := Claim7.holds Tryz.pinned (.plain (OpenSpec.ofChange objectGetsSpec)) objectGetsCard

/-- THE SECOND FORM's CARD OF 'dryshodlaw.ObjectPuts'. -/
def objectPutsUptoCard : Claim7 := { stood := { row := objectPutsUptoRow, standIns := [], harness := (true, "e80b958ef0a99e96eae1e768e9bae53d2249e4d572ae06ce76866c605e170d4f"), looks := true }, kinds := [], alts := [], laidByText := true, laidKinds := [.data, .data, .data, .data, .sentinel, .sentinel, .pinned], laidTests := true, laidLooks := .later }
def ObjectPutsUptoCardSaid : Prop := Claim7.holds Tryz.pinned (.plain (OpenSpec.upto objectPutsSpec)) objectPutsUptoCard

/-- THE SECOND FORM's CARD OF 'dryshodtop.TopMeans'. -/
def topMeansUptoCard : Claim7 := { stood := { row := topMeansUptoRow, standIns := [], harness := (true, "e80b958ef0a99e96eae1e768e9bae53d2249e4d572ae06ce76866c605e170d4f"), looks := true }, kinds := [], alts := [], laidByText := true, laidKinds := [.data, .data, .data, .data, .sentinel, .sentinel, .pinned], laidTests := true, laidLooks := .later }
def TopMeansUptoCardSaid : Prop := Claim7.holds Tryz.pinned (.plain (OpenSpec.upto topMeansSpec)) topMeansUptoCard

/-- THE SECOND FORM's CARD OF 'dryshodkeep.ObjectOne'. -/
def objectOneUptoCard : Claim7 := { stood := { row := objectOneUptoRow, standIns := [], harness := (true, "e80b958ef0a99e96eae1e768e9bae53d2249e4d572ae06ce76866c605e170d4f"), looks := true }, kinds := [], alts := [], laidByText := true, laidKinds := [.data, .data, .data, .data, .sentinel, .sentinel, .pinned], laidTests := true, laidLooks := .later }
def ObjectOneUptoCardSaid : Prop := Claim7.holds Tryz.pinned (.plain (OpenSpec.upto objectOneSpec)) objectOneUptoCard

/-- THE SECOND FORM's CARD OF 'dryshodlaw.ObjectGets'. -/
def objectGetsUptoCard : Claim7 := { stood := { row := objectGetsUptoRow, standIns := [], harness := (true, "e80b958ef0a99e96eae1e768e9bae53d2249e4d572ae06ce76866c605e170d4f"), looks := true }, kinds := [], alts := [], laidByText := true, laidKinds := [.data, .data, .data, .data, .sentinel, .sentinel, .pinned], laidTests := true, laidLooks := .later }
def ObjectGetsUptoCardSaid : Prop := Claim7.holds Tryz.pinned (.plain (OpenSpec.upto objectGetsSpec)) objectGetsUptoCard
end Rows
end Go.Proofs.YtpcihajmcejliaaGreatDoor
