/- The row of LinkStale goes by nothing of the program: reckoned in a text of its own (8 GB). -/
import Derived.Test.YtpcihajmcejliabDoorCards
import Derived.WalkKit
import Derived.ProofKit
import Derived.OpenShut
import Derived.SevenTiedAt
namespace Go.Proofs.YtpcihajmcejliabDoor.linkStale
theorem goes : false = Rows.linkStaleUptoRow.goesBy Tryd.prog := by kernel_rfl
end Go.Proofs.YtpcihajmcejliabDoor.linkStale
