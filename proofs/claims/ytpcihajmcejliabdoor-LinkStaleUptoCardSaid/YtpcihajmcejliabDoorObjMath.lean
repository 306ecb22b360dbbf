/- Objects, in plain Lean: their bytes. -/
import Derived.Test.YtpcihajmcejliabDoorFaceDefs
import Derived.Test.YtpcihajmcejliabDoorMach
import Derived.Laws.Concat
namespace Go.Proofs.YtpcihajmcejliabDoor
open Go.RowKit
structure FRel where
  (at_ kind : Int) (modn name : ByteArray)
structure FPlc where
  (name : ByteArray) (at_ : Int)
structure FObj where
  (face : FFace) (imports : List FFace) (code : List Ins) (relocs : List FRel) (procs lows highs : List FPlc) (low high lowF highF : Int)
instance : Inhabited FFace := ⟨⟨ByteArray.empty, [], []⟩⟩
instance : Inhabited Ins := ⟨⟨0, 0, 0, 0, 0⟩⟩
instance : Inhabited FRel := ⟨⟨0, 0, ByteArray.empty, ByteArray.empty⟩⟩
instance : Inhabited FPlc := ⟨⟨ByteArray.empty, 0⟩⟩
/-- the byte of a number that stands s bits up -/
def byteAt (n : Int) (s : Nat) : UInt8 := UInt8.ofNat ((n / 2 ^ s) % 256).toNat
/-- a number's eight bytes -/
def num8 (n : Int) : List UInt8 := [byteAt n 56, byteAt n 48, byteAt n 40, byteAt n 32, byteAt n 24, byteAt n 16, byteAt n 8, byteAt n 0]
def numsL (l : List Int) : List UInt8 := l.flatMap num8
def textL (s : ByteArray) : List UInt8 := num8 s.size ++ s.data.toList
def truthL (b : Bool) : List UInt8 := num8 (if b then 1 else 0)
def varL (v : FVar) : List UInt8 := textL v.name ++ truthL v.pub ++ numsL [v.label, v.size]
def procL (p : FProc) : List UInt8 := textL p.name ++ truthL p.pub ++ num8 p.params.length ++ numsL p.params ++ num8 p.writes ++ truthL p.gives ++ num8 p.given
def faceL (f : FFace) : List UInt8 := textL f.modn ++ num8 f.vars.length ++ f.vars.flatMap varL ++ num8 f.procs.length ++ f.procs.flatMap procL
def plcL (p : FPlc) : List UInt8 := textL p.name ++ num8 p.at_
def placesL (l : List FPlc) : List UInt8 := num8 l.length ++ l.flatMap plcL
def insL (i : Ins) : List UInt8 := numsL [i.op, i.a, i.b, i.c] ++ num8 i.n
def relL (r : FRel) : List UInt8 := numsL [r.at_, r.kind] ++ textL r.modn ++ textL r.name
/-- an object's bytes -/
def objL (o : FObj) : List UInt8 :=
  faceL o.face ++ num8 o.imports.length ++ o.imports.flatMap faceL ++ num8 o.code.length ++ o.code.flatMap insL ++ num8 o.relocs.length ++ o.relocs.flatMap relL ++
    placesL o.procs ++ placesL o.lows ++ placesL o.highs ++ numsL [o.low, o.high, o.lowF, o.highF]
namespace obj
theorem byteAt_div (n : Int) (s : Nat) : byteAt (n / 256) s = byteAt n (s + 8) := by
  unfold byteAt
  rw [Int.ediv_ediv_of_nonneg (by omega), show (256 : Int) * 2 ^ s = 2 ^ (s + 8) by rw [Int.pow_add]; omega]
theorem byteAt_nat (n : Int) (s : Nat) : ((byteAt n s).toNat : Int) = (n / 2 ^ s) % 256 := by
  unfold byteAt
  have h1 : 0 ≤ (n / 2 ^ s) % 256 := Int.emod_nonneg _ (by decide)
  have h2 : (n / 2 ^ s) % 256 < 256 := Int.emod_lt_of_pos _ (by decide)
  rw [UInt8.toNat_ofNat']
  omega
theorem num8_len (n : Int) : (num8 n).length = 8 := rfl
theorem num8_at (n : Int) (j : Nat) (h : j < (num8 n).length) : (num8 n)[j] = byteAt n (56 - 8 * j) := by
  have h8 : j < 8 := h
  have : j = 0 ∨ j = 1 ∨ j = 2 ∨ j = 3 ∨ j = 4 ∨ j = 5 ∨ j = 6 ∨ j = 7 := by omega
  rcases this with rfl | rfl | rfl | rfl | rfl | rfl | rfl | rfl
  all_goals rfl
end obj
end Go.Proofs.YtpcihajmcejliabDoor
