/- The program's main: reckoned in a text of its own (5 GB). -/
import Derived.Test.YtpcihajmcejliacGreatDoorCards
import Derived.WalkKit
import Derived.ProofKit
import Derived.OpenShut
import Derived.SevenTiedAt
namespace Go.Proofs.YtpcihajmcejliacGreatDoor.checkMore
theorem SE:Tryz.prog.mainIs=some (Rows.checkMoreCard.stood.harness.1,Rows.checkMoreCard.stood.harness.2.toList):=by kernel_rfl
end Go.Proofs.YtpcihajmcejliacGreatDoor.checkMore
