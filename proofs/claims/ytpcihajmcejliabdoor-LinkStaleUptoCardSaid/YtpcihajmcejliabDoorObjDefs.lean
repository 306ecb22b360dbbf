/- Objects as they lie in memory; how long what is written is: no program's walk. -/
import Derived.Test.YtpcihajmcejliabDoorObjMath
import Derived.Deep.OwnRows
namespace Go.Proofs.YtpcihajmcejliabDoor
open Go.RowKit
namespace obj
/-- a row of numbers, read -/
def NumsAt (w : World) (a : Option Addr) (l : List Int) : Prop := AllIn 1 IntIn w a l ∧ ∀ x ∈ l, -9223372036854775808 ≤ x ∧ x ≤ 9223372036854775807
theorem numsL_take (l : List Int) (k : Nat) (h : k < l.length) : numsL (l.take (k + 1)) = numsL (l.take k) ++ num8 l[k] := by
  unfold numsL
  rw [List.take_succ_eq_append_getElem h, List.flatMap_append, List.flatMap_cons, List.flatMap_nil, List.append_nil]
theorem numsL_len (l : List Int) : (numsL l).length = 8 * l.length := by
  unfold numsL
  induction l with
  | nil => rfl
  | cons x r ih => rw [List.flatMap_cons, List.length_append, ih, num8_len, List.length_cons]; omega
theorem NumsAt.ofBlk {w : World} {l : List Int} {T : TypeId} {b : Nat} (h : Blk w b (l.map (Value.int .i64)).toArray T) (hb : ∀ x ∈ l, -9223372036854775808 ≤ x ∧ x ≤ 9223372036854775807) : NumsAt w (some ⟨b, 0, none⟩) l := by
  refine ⟨fun j hj => ⟨b, 0, rfl, h.lt, ?_⟩, hb⟩
  unfold IntIn
  rw [h.cell]
  simp [hj]
end obj
def inI (n : Int) : Prop := -9223372036854775808 ≤ n ∧ n ≤ 9223372036854775807
def PlcIn (w : World) (b o : Nat) (p : FPlc) : Prop := w.cell? ⟨b, o, none⟩ = some (.string p.name) ∧ w.cell? ⟨b, o + 1, none⟩ = some (.int .i64 p.at_) ∧ p.name.size ≤ maxLen ∧ inI p.at_
theorem PlcIn.ext {w w' : World} (hE : Ext w w') {b o : Nat} {x : FPlc} (hb : b < w.heap.size) (h : PlcIn w b o x) : PlcIn w' b o x := by
  unfold PlcIn at *
  rw [hE.cell (by exact hb) id, hE.cell (by exact hb) id]; exact h
namespace obj
theorem places_take (l : List FPlc) (k : Nat) (h : k < l.length) : (l.take (k + 1)).flatMap plcL = (l.take k).flatMap plcL ++ textL l[k].name ++ numsL [l[k].at_] := by
  rw [List.take_succ_eq_append_getElem h, List.flatMap_append, List.flatMap_cons, List.flatMap_nil, List.append_nil, plcL, List.append_assoc]
  simp [numsL]
theorem flat_len {α : Type} (f : α → List UInt8) (l : List α) (k : Nat) : ((l.take k).flatMap f).length ≤ (l.flatMap f).length := by
  conv => rhs; rw [← List.take_append_drop k l, List.flatMap_append, List.length_append]
  omega
end obj
/-- all of a face's numbers are numbers of 64 bits -/
structure FaceNums (x : FFace) : Prop where
  vars : ∀ v ∈ x.vars, inI v.label ∧ inI v.size
  procs : ∀ p ∈ x.procs, (∀ q ∈ p.params, inI q) ∧ inI p.writes ∧ inI p.given
namespace obj
theorem vars_take (l : List FVar) (k : Nat) (h : k < l.length) : (l.take (k + 1)).flatMap varL = (l.take k).flatMap varL ++ (textL l[k].name ++ (truthL l[k].pub ++ numsL [l[k].label, l[k].size])) := by
  rw [List.take_succ_eq_append_getElem h, List.flatMap_append, List.flatMap_cons, List.flatMap_nil, List.append_nil, varL]
  simp only [List.append_assoc]
theorem procs_take (l : List FProc) (k : Nat) (h : k < l.length) : (l.take (k + 1)).flatMap procL = (l.take k).flatMap procL ++ (textL l[k].name ++ (truthL l[k].pub ++ (numsL [(l[k].params.length : Int)] ++ (numsL l[k].params ++ (numsL [l[k].writes] ++ (truthL l[k].gives ++ numsL [l[k].given])))))) := by
  rw [List.take_succ_eq_append_getElem h, List.flatMap_append, List.flatMap_cons, List.flatMap_nil, List.append_nil, procL]
  simp [numsL, List.append_assoc]
theorem text_len (s : ByteArray) : (textL s).length = 8 + s.size := by unfold textL; rw [List.length_append, num8_len, Array.length_toList]; rfl
theorem truth_len (b : Bool) : (truthL b).length = 8 := rfl
theorem flat_many {α : Type} (f : α → List UInt8) (hf : ∀ x, 1 ≤ (f x).length) (m : List α) : m.length ≤ (m.flatMap f).length := by
  induction m with
  | nil => exact Nat.le_refl _
  | cons x r ih => rw [List.flatMap_cons, List.length_append, List.length_cons]; have := hf x; omega
end obj
def FaceIn (w : World) (b o : Nat) (x : FFace) : Prop :=
  ∃ a m c d, w.cell? ⟨b, o, none⟩ = some (.string x.modn) ∧ w.cell? ⟨b, o + 1, none⟩ = some (.slice a x.vars.length m) ∧ w.cell? ⟨b, o + 2, none⟩ = some (.slice c x.procs.length d) ∧ FaceAt w x (.agg #[.string x.modn, .slice a x.vars.length m, .slice c x.procs.length d])
theorem FaceIn.ext {w w' : World} (hE : Ext w w') {b o : Nat} {x : FFace} (hb : b < w.heap.size) (h : FaceIn w b o x) : FaceIn w' b o x := by
  obtain ⟨a, m, c, d, h0, h1, h2, h3⟩ := h
  refine ⟨a, m, c, d, ?_, ?_, ?_, FaceAt.ext hE h3⟩
  · rw [hE.cell (by exact hb) id]; exact h0
  · rw [hE.cell (by exact hb) id]; exact h1
  · rw [hE.cell (by exact hb) id]; exact h2
def InsIn5 (w : World) (b o : Nat) (i : Ins) : Prop :=
  w.cell? ⟨b, o, none⟩ = some (.int .i64 i.op) ∧ w.cell? ⟨b, o + 1, none⟩ = some (.int .i64 i.a) ∧ w.cell? ⟨b, o + 2, none⟩ = some (.int .i64 i.b) ∧ w.cell? ⟨b, o + 3, none⟩ = some (.int .i64 i.c) ∧ w.cell? ⟨b, o + 4, none⟩ = some (.int .i64 i.n)
theorem InsIn5.ext {w w' : World} (hE : Ext w w') {b o : Nat} {x : Ins} (hb : b < w.heap.size) (h : InsIn5 w b o x) : InsIn5 w' b o x := by
  unfold InsIn5 at *
  rw [hE.cell (by exact hb) id, hE.cell (by exact hb) id, hE.cell (by exact hb) id, hE.cell (by exact hb) id, hE.cell (by exact hb) id]; exact h
def RelIn (w : World) (b o : Nat) (r : FRel) : Prop :=
  w.cell? ⟨b, o, none⟩ = some (.int .i64 r.at_) ∧ w.cell? ⟨b, o + 1, none⟩ = some (.int .i64 r.kind) ∧ w.cell? ⟨b, o + 2, none⟩ = some (.string r.modn) ∧ w.cell? ⟨b, o + 3, none⟩ = some (.string r.name)
theorem RelIn.ext {w w' : World} (hE : Ext w w') {b o : Nat} {x : FRel} (hb : b < w.heap.size) (h : RelIn w b o x) : RelIn w' b o x := by
  unfold RelIn at *
  rw [hE.cell (by exact hb) id, hE.cell (by exact hb) id, hE.cell (by exact hb) id, hE.cell (by exact hb) id]; exact h
/-- all of an object's numbers are numbers of 64 bits -/
structure ObjNums (x : FObj) : Prop where
  face : FaceNums x.face
  imports : ∀ f ∈ x.imports, FaceNums f
  code : ∀ i ∈ x.code, (∀ y ∈ [i.op, i.a, i.b, i.c], -9223372036854775808 ≤ y ∧ y ≤ 9223372036854775807) ∧ (-9223372036854775808 ≤ i.n ∧ i.n ≤ 9223372036854775807)
  relocs : ∀ r ∈ x.relocs, ∀ y ∈ [r.at_, r.kind], -9223372036854775808 ≤ y ∧ y ≤ 9223372036854775807
  words : ∀ y ∈ [x.low, x.high, x.lowF, x.highF], -9223372036854775808 ≤ y ∧ y ≤ 9223372036854775807
/-- An object as a value. -/
structure ObjAt (w : World) (x : FObj) (v : Value) : Prop where
  ex : ∃ fa am fc cm ia ic ca cc ra rc pa pc la lc ha hc, v = .agg #[.string x.face.modn, .slice fa x.face.vars.length am, .slice fc x.face.procs.length cm, .slice ia x.imports.length ic, .slice ca x.code.length cc, .slice ra x.relocs.length rc, .slice pa x.procs.length pc, .slice la x.lows.length lc, .slice ha x.highs.length hc, .int .i64 x.low, .int .i64 x.high, .int .i64 x.lowF, .int .i64 x.highF] ∧
    FaceAt w x.face (.agg #[.string x.face.modn, .slice fa x.face.vars.length am, .slice fc x.face.procs.length cm]) ∧
    AllIn 3 FaceIn w ia x.imports ∧ AllIn 5 InsIn5 w ca x.code ∧ AllIn 4 RelIn w ra x.relocs ∧ AllIn 2 PlcIn w pa x.procs ∧ AllIn 2 PlcIn w la x.lows ∧ AllIn 2 PlcIn w ha x.highs
theorem ObjAt.ext {w w' : World} (hE : Ext w w') {x : FObj} {v : Value} (h : ObjAt w x v) : ObjAt w' x v := by
  obtain ⟨fa, am, fc, cm, ia, ic, ca, cc, ra, rc, pa, pc, la, lc, ha, hc, rfl, h0, h1, h2, h3, h4, h5, h6⟩ := h.ex
  exact ⟨fa, am, fc, cm, ia, ic, ca, cc, ra, rc, pa, pc, la, lc, ha, hc, rfl, FaceAt.ext hE h0, h1.mono hE.size fun _ _ _ hb h => FaceIn.ext hE hb h, h2.mono hE.size fun _ _ _ hb h => InsIn5.ext hE hb h, h3.mono hE.size fun _ _ _ hb h => RelIn.ext hE hb h, h4.mono hE.size fun _ _ _ hb h => PlcIn.ext hE hb h, h5.mono hE.size fun _ _ _ hb h => PlcIn.ext hE hb h, h6.mono hE.size fun _ _ _ hb h => PlcIn.ext hE hb h⟩
namespace obj
theorem flat_take {α : Type} (f : α → List UInt8) (l : List α) (k : Nat) (h : k < l.length) : (l.take (k + 1)).flatMap f = (l.take k).flatMap f ++ f l[k] := by
  rw [List.take_succ_eq_append_getElem h, List.flatMap_append, List.flatMap_cons, List.flatMap_nil, List.append_nil]
theorem plc_all {a : Option Addr} {l : List FPlc} {w w' : World} (h : AllIn 2 PlcIn w a l) (hE : Ext w w') : AllIn 2 PlcIn w' a l := h.mono hE.size fun _ _ _ hb h => PlcIn.ext hE hb h
end obj
end Go.Proofs.YtpcihajmcejliabDoor
