/- The row of SyntaxPrints goes by nothing of the program: reckoned in a text of its own (8 GB). -/
import Derived.Test.YtpcihajmcejliabGreatDoorCards
import Derived.WalkKit
import Derived.ProofKit
import Derived.OpenShut
import Derived.SevenTiedAt
namespace Go.Proofs.YtpcihajmcejliabGreatDoor.syntaxPrints
theorem goes : false = Rows.syntaxPrintsRow.goesBy Tryz.prog := by kernel_rfl
end Go.Proofs.YtpcihajmcejliabGreatDoor.syntaxPrints
