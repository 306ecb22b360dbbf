/- Plain words for chapter 1: what num.Op, num.Join and the reference's come to. No program here. -/
import Derived.WalkKit
namespace Go.Proofs.YtpcihajmcejliabDoor
open Go.RowKit
/-- num.Op, as integers. -/
def opF (op a b : Int) : Int × Bool :=
  if op = 1 then (wrap64 (a + b), true)
  else if op = 2 then (wrap64 (a - b), true)
  else if op = 3 then (wrap64 (a * b), true)
  else if op = 4 then (if b = 0 then 0 else if b = -1 then wrap64 (-a) else wrap64 (a.tdiv b), decide (b ≠ 0))
  else if op = 5 then (if b = 0 then 0 else if b = -1 then 0 else a.tmod b, decide (b ≠ 0))
  else if op = 6 then (bits .and .i64 a b, true)
  else if op = 7 then (bits .or .i64 a b, true)
  else if op = 8 then (if a < b then 1 else 0, true)
  else if op = 9 then (if a = b then 1 else 0, true)
  else (0, false)
def joinF (a b : Int) : Int := if a = 0 ∧ b = 0 then 0 else 1
end Go.Proofs.YtpcihajmcejliabDoor
