/- Plain words for chapter 8: orders, images, and what a machine does. No program here. -/
import Derived.Test.YtpcihajmcejliabDoorNumDefs
namespace Go.Proofs.YtpcihajmcejliabDoor
open Go.RowKit
/-- An order. -/
structure Ins where
  op : Int
  a : Int
  b : Int
  c : Int
  n : Int
/-- which fields an order has: A, B, C, N; is there such an order -/
def shapeF (op : Int) : Bool × Bool × Bool × Bool × Bool :=
  if op = 1 ∨ op = 9 ∨ op = 10 then (true, false, false, true, true)
  else if op = 2 then (true, true, false, false, true)
  else if op = 3 ∨ op = 4 ∨ op = 5 ∨ op = 6 ∨ op = 7 then (true, true, false, true, true)
  else if op = 8 ∨ op = 11 then (false, false, false, true, true)
  else if op = 13 ∨ op = 14 ∨ op = 15 ∨ op = 16 then (true, false, false, false, true)
  else if op = 12 ∨ op = 17 then (false, false, false, false, true)
  else (true, true, true, false, decide (20 < op ∧ op ≤ 29))
def regB (is : Bool) (n : Int) : Bool := n == 0 || (is && decide (0 < n) && decide (n < 8))
def lastB (op n many : Int) : Bool :=
  if op = 8 ∨ op = 9 ∨ op = 11 then decide (0 ≤ n) && decide (n < many)
  else if op = 10 then decide (1 ≤ n) && decide (n ≤ 64) else true
theorem lastB_j {op n many : Int} (h : op = 8 ∨ op = 9 ∨ op = 11) : lastB op n many = (decide (0 ≤ n) && decide (n < many)) := if_pos h
theorem lastB_c {op n many : Int} (h : op = 10) : lastB op n many = (decide (1 ≤ n) && decide (n ≤ 64)) := by unfold lastB; rw [if_neg (by omega), if_pos h]
theorem lastB_e {op n many : Int} (h : ¬ (op = 8 ∨ op = 9 ∨ op = 10 ∨ op = 11)) : lastB op n many = true := by unfold lastB; rw [if_neg (by omega), if_neg (by omega)]
def orderB (i : Ins) (many : Int) : Bool :=
  (shapeF i.op).2.2.2.2 && regB (shapeF i.op).1 i.a && regB (shapeF i.op).2.1 i.b && regB (shapeF i.op).2.2.1 i.c &&
    ((shapeF i.op).2.2.2.1 || i.n == 0) && lastB i.op i.n many
def mayB (code : List Ins) (lo hi : Int) : Bool :=
  decide (1 ≤ code.length) && decide (code.length ≤ 20000) && decide (0 ≤ lo) && decide (lo ≤ 20000) && decide (0 ≤ hi) && decide (hi ≤ 20000) && code.all (fun i => orderB i code.length)
end Go.Proofs.YtpcihajmcejliabDoor
