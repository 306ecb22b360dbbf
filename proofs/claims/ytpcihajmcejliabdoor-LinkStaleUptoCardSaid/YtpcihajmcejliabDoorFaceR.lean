/- The walks of the reference's comparison of faces: proc, Same. -/
import Derived.Test.YtpcihajmcejliabDoorFaceSame
import Derived.StillTailTactics
namespace Go.Proofs.YtpcihajmcejliabDoor
open Go.RowKit
namespace rface
open face
end rface
end Go.Proofs.YtpcihajmcejliabDoor
