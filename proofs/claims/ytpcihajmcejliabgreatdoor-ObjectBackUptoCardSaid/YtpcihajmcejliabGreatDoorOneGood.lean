/- What the laws on Put ask of an object that comes in. -/
import Derived.Test.YtpcihajmcejliabGreatDoorObjRow
import Derived.Test.YtpcihajmcejliabGreatDoorObjMayA
import Derived.Test.YtpcihajmcejliabGreatDoorObjInj
namespace Go.Proofs.YtpcihajmcejliabGreatDoor
open Go.RowKit
namespace oneLaw
/-- what the law asks of an object that comes in -/
structure Good (w : World) (x : FObj) (v : Value) : Prop where
  at_ : ObjAt w x v
  nums : ObjNums x
  plcs : objInj.PlcNums x
  small : ObjSmall x
  len : (objL x).length ≤ 9437184
theorem put_good {w : World} {x : FObj} {v : Value} (hx : Good w x v) (hev : ErrVar w) (hmv : MaxVar w) (u : World) (hE : Ext w u) : Calls Tryz.prog 22 #[v] u (objw.PutPost x (mayObjB x) u) :=
  objw.put_any x v u (mayObjB x) (ObjAt.ext hE hx.at_) hx.nums (by have := hx.len; omega) (fun u2 hE2 => mayo.may_any x v u2 (ObjAt.ext (hE.ext hE2) hx.at_) hx.small (hev.ext (hE.ext hE2)) (hmv.ext (hE.ext hE2)))
end oneLaw
end Go.Proofs.YtpcihajmcejliabGreatDoor
