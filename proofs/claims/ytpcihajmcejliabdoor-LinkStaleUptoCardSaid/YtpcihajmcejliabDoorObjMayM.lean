/- Objects, in plain Lean: which may be. -/
import Derived.Test.YtpcihajmcejliabDoorObjMath
import Derived.Test.YtpcihajmcejliabDoorFaceMath
namespace Go.Proofs.YtpcihajmcejliabDoor
open Go.RowKit Go.WideMaps Go.Maps
def FPlc.key (p : FPlc) : List UInt8 := p.name.data.toList
def plcB (below : Int) (p : FPlc) : Bool := nameB p.name.data.toList && decide (0 ≤ p.at_) && decide (p.at_ < below)
def placesB (l : List FPlc) (below : Int) : Bool := l.all (plcB below) && distinctB (l.map FPlc.key)
def bareN (i : Ins) : Int := if i.op = 8 ∨ i.op = 9 ∨ i.op = 11 then 0 else i.n
def instrB (i : Ins) : Bool := orderB ⟨i.op, i.a, i.b, i.c, bareN i⟩ 1
def relB (n : Int) (r : FRel) : Bool :=
  decide (r.at_ < n) && decide (1 ≤ r.kind) && decide (r.kind ≤ 4) && (if r.kind = 1 then r.modn.toList.isEmpty && r.name.toList.isEmpty else nameB r.modn.data.toList && nameB r.name.data.toList)
def prevAt (l : List FRel) (k : Nat) : Int := if k = 0 then -1 else (l[k - 1]!).at_
def relAt (l : List FRel) (n : Int) (k : Nat) : Bool := decide (prevAt l k < (l[k]!).at_) && relB n (l[k]!)
def relsB (l : List FRel) (n : Int) : Bool := (List.range l.length).all (relAt l n)
def codeB (o : FObj) : Bool := o.code.all instrB && relsB o.relocs o.code.length && decide (o.code.length ≤ 20000)
def FFace.key (f : FFace) : List UInt8 := f.modn.data.toList
def facesB (o : FObj) : Bool := o.imports.all mayFaceB && (mayFaceB o.face && decide (o.imports.length < 6) && distinctB (o.face.key :: o.imports.map FFace.key))
def wordN (n : Int) : Bool := decide (0 ≤ n) && decide (n ≤ 20000)
def mayObjB (o : FObj) : Bool :=
  [o.low, o.high, o.lowF, o.highF].all wordN && (facesB o && codeB o && placesB o.procs o.code.length && placesB o.lows o.low && placesB o.highs o.high)
namespace mayo
theorem keys_take {α : Type} (f : α → List UInt8) (l : List α) (k : Nat) (h : k < l.length) : (l.map f).take (k + 1) = (l.map f).take k ++ [f l[k]] := by
  have h2 : k < (l.map f).length := by rw [List.length_map]; exact h
  rw [List.take_succ_eq_append_getElem h2, List.getElem_map]
theorem rels_bad {l : List FRel} {n : Int} {k : Nat} (h : k < l.length) (hb : relAt l n k = false) : relsB l n = false := by
  unfold relsB
  rw [Bool.eq_false_iff]
  intro ha
  rw [List.all_eq_true] at ha
  rw [ha k (List.mem_range.2 h)] at hb
  cases hb
theorem rels_all {l : List FRel} {n : Int} {k : Nat} (h : l.length = k) (ha : ∀ j, j < k → relAt l n j = true) : relsB l n = true := by
  unfold relsB
  rw [List.all_eq_true]
  intro j hj
  rw [List.mem_range] at hj
  exact ha j (by omega)
theorem prev_ge {l : List FRel} {n : Int} (k : Nat) (ha : ∀ j, j < k → relAt l n j = true) : -1 ≤ prevAt l k := by
  induction k with
  | zero => exact Int.le_refl _
  | succ k ih =>
    have h1 := ih fun j hj => ha j (by omega)
    have h2 := ha k (by omega)
    unfold relAt at h2
    rw [Bool.and_eq_true] at h2
    have h3 := of_decide_eq_true h2.1
    unfold prevAt
    rw [if_neg (by omega), show k + 1 - 1 = k by omega]
    omega
theorem rel_get {l : List FRel} {k : Nat} (h : k < l.length) : l[k]! = l[k] := getElem!_pos l k h
theorem rel_at {l : List FRel} {n : Int} {k : Nat} (h : k < l.length) : relAt l n k = (decide (prevAt l k < l[k].at_) && relB n l[k]) := by
  unfold relAt; rw [rel_get h]
theorem prev_succ {l : List FRel} {k : Nat} (h : k < l.length) : prevAt l (k + 1) = l[k].at_ := by
  unfold prevAt
  rw [if_neg (by omega), show k + 1 - 1 = k by omega, rel_get h]
theorem upto_succ {p : Nat → Bool} {k : Nat} (h : ∀ j, j < k → p j = true) (hk : p k = true) : ∀ j, j < k + 1 → p j = true := fun j hj => by
  by_cases e : j = k
  · subst e; exact hk
  · exact h j (by omega)
end mayo
end Go.Proofs.YtpcihajmcejliabDoor
