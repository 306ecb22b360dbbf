/- The program's main: reckoned in a text of its own (5 GB). -/
import Derived.Test.YtpcihajmcejliacGreatDoorCards
import Derived.WalkKit
import Derived.ProofKit
import Derived.OpenShut
import Derived.SevenTiedAt
namespace Go.Proofs.YtpcihajmcejliacGreatDoor.checkRaised
theorem aa0:Tryz.prog.mainIs=some (Rows.checkRaisedCard.stood.harness.1,Rows.checkRaisedCard.stood.harness.2.toList):=by kernel_rfl
end Go.Proofs.YtpcihajmcejliacGreatDoor.checkRaised
