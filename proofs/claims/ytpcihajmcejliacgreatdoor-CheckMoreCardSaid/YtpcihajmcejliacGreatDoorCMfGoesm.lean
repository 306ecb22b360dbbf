/- The row of CheckMore goes by nothing of the program: reckoned in a text of its own (8 GB). -/
import Derived.Test.YtpcihajmcejliacGreatDoorCards
import Derived.WalkKit
import Derived.ProofKit
import Derived.OpenShut
import Derived.SevenTiedAt
namespace Go.Proofs.YtpcihajmcejliacGreatDoor.checkMore
theorem goes:false=Rows.checkMoreRow.goesBy Tryz.prog:=by kernel_rfl
end Go.Proofs.YtpcihajmcejliacGreatDoor.checkMore
