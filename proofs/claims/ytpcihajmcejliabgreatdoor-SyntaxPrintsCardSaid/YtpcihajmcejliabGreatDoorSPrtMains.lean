/- The program's main: reckoned in a text of its own (5 GB). -/
import Derived.Test.YtpcihajmcejliabGreatDoorCards
import Derived.WalkKit
import Derived.ProofKit
import Derived.OpenShut
import Derived.SevenTiedAt
namespace Go.Proofs.YtpcihajmcejliabGreatDoor.syntaxPrints
theorem mains : Tryz.prog.mainIs = some (Rows.syntaxPrintsCard.stood.harness.1, Rows.syntaxPrintsCard.stood.harness.2.toList) := by kernel_rfl
end Go.Proofs.YtpcihajmcejliabGreatDoor.syntaxPrints
