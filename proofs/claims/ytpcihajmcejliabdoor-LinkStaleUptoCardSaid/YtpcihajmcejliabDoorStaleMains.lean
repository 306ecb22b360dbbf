/- The program's main: reckoned in a text of its own (5 GB). -/
import Derived.Test.YtpcihajmcejliabDoorCards
import Derived.WalkKit
import Derived.ProofKit
import Derived.OpenShut
import Derived.SevenTiedAt
namespace Go.Proofs.YtpcihajmcejliabDoor.linkStale
theorem mains : Tryd.prog.mainIs = some (Rows.linkStaleUptoCard.stood.harness.1, Rows.linkStaleUptoCard.stood.harness.2.toList) := by kernel_rfl
end Go.Proofs.YtpcihajmcejliabDoor.linkStale
