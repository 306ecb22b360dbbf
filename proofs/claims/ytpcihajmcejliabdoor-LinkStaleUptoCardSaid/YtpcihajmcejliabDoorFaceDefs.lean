/- Faces: how one lies in memory. -/
import Derived.Test.YtpcihajmcejliabDoorFrame
namespace Go.Proofs.YtpcihajmcejliabDoor
open Go.RowKit
structure FVar where
  (name : ByteArray) (pub : Bool) (label size : Int)
structure FProc where
  (name : ByteArray) (pub : Bool) (params : List Int) (writes : Int) (gives : Bool) (given : Int)
structure FFace where
  (modn : ByteArray) (vars : List FVar) (procs : List FProc)
instance : Inhabited FVar := ⟨⟨ByteArray.empty, false, 0, 0⟩⟩
instance : Inhabited FProc := ⟨⟨ByteArray.empty, false, [], 0, false, 0⟩⟩
/-- rows of elements of k cells each, at an address -/
def AllIn {α : Type} (k : Nat) (In : World → Nat → Nat → α → Prop) (w : World) (a : Option Addr) (l : List α) : Prop :=
  ∀ (j : Nat) (h : j < l.length), ∃ b o, a = some ⟨b, o, none⟩ ∧ b < w.heap.size ∧ In w b (o + j * k) l[j]
def IntIn (w : World) (b o : Nat) (x : Int) : Prop := w.cell? ⟨b, o, none⟩ = some (.int .i64 x)
def VarIn (w : World) (b o : Nat) (x : FVar) : Prop :=
  w.cell? ⟨b, o, none⟩ = some (.string x.name) ∧ w.cell? ⟨b, o + 1, none⟩ = some (.bool x.pub) ∧ w.cell? ⟨b, o + 2, none⟩ = some (.int .i64 x.label) ∧ w.cell? ⟨b, o + 3, none⟩ = some (.int .i64 x.size) ∧ x.name.size ≤ maxLen
def ProcIn (w : World) (b o : Nat) (x : FProc) : Prop :=
  w.cell? ⟨b, o, none⟩ = some (.string x.name) ∧ w.cell? ⟨b, o + 1, none⟩ = some (.bool x.pub) ∧ (∃ a cap, w.cell? ⟨b, o + 2, none⟩ = some (.slice a x.params.length cap) ∧ AllIn 1 IntIn w a x.params ∧ x.params.length ≤ cap ∧ cap ≤ maxLen) ∧
    w.cell? ⟨b, o + 3, none⟩ = some (.int .i64 x.writes) ∧ w.cell? ⟨b, o + 4, none⟩ = some (.bool x.gives) ∧ w.cell? ⟨b, o + 5, none⟩ = some (.int .i64 x.given) ∧ x.name.size ≤ maxLen
/-- A face as a value: its module's name, two rows. -/
def FaceAt (w : World) (x : FFace) (v : Value) : Prop :=
  ∃ a m c d, v = .agg #[.string x.modn, .slice a x.vars.length m, .slice c x.procs.length d] ∧ AllIn 4 VarIn w a x.vars ∧ AllIn 6 ProcIn w c x.procs ∧ x.modn.size ≤ maxLen ∧ x.vars.length ≤ m ∧ m ≤ maxLen ∧ x.procs.length ≤ d ∧ d ≤ maxLen
theorem AllIn.mono {α : Type} {k : Nat} {In : World → Nat → Nat → α → Prop} {w w' : World} {a : Option Addr} {l : List α} (h : AllIn k In w a l) (hs : w.heap.size ≤ w'.heap.size)
    (hi : ∀ b o x, b < w.heap.size → In w b o x → In w' b o x) : AllIn k In w' a l := fun j hj => by
  obtain ⟨b, o, e, hb, hin⟩ := h j hj
  exact ⟨b, o, e, by omega, hi _ _ _ hb hin⟩
theorem IntIn.ext {w w' : World} (hE : Ext w w') {b o : Nat} {x : Int} (hb : b < w.heap.size) (h : IntIn w b o x) : IntIn w' b o x := by
  unfold IntIn at *; rw [hE.cell (by exact hb) id]; exact h
theorem VarIn.ext {w w' : World} (hE : Ext w w') {b o : Nat} {x : FVar} (hb : b < w.heap.size) (h : VarIn w b o x) : VarIn w' b o x := by
  unfold VarIn at *
  rw [hE.cell (by exact hb) id, hE.cell (by exact hb) id, hE.cell (by exact hb) id, hE.cell (by exact hb) id]; exact h
theorem ProcIn.ext {w w' : World} (hE : Ext w w') {b o : Nat} {x : FProc} (hb : b < w.heap.size) (h : ProcIn w b o x) : ProcIn w' b o x := by
  obtain ⟨h0, h1, ⟨a, cap, h2, h2i, h2c⟩, h3⟩ := h
  refine ⟨?_, ?_, ⟨a, cap, ?_, h2i.mono hE.size fun _ _ _ hb h => IntIn.ext hE hb h, h2c⟩, ?_⟩
  · rw [hE.cell (by exact hb) id]; exact h0
  · rw [hE.cell (by exact hb) id]; exact h1
  · rw [hE.cell (by exact hb) id]; exact h2
  · rw [hE.cell (by exact hb) id, hE.cell (by exact hb) id, hE.cell (by exact hb) id]; exact h3
theorem FaceAt.ext {w w' : World} (hE : Ext w w') {x : FFace} {v : Value} (h : FaceAt w x v) : FaceAt w' x v := by
  obtain ⟨a, m, c, d, rfl, h1, h2, h3⟩ := h
  exact ⟨a, m, c, d, rfl, h1.mono hE.size fun _ _ _ hb h => VarIn.ext hE hb h, h2.mono hE.size fun _ _ _ hb h => ProcIn.ext hE hb h, h3⟩
end Go.Proofs.YtpcihajmcejliabDoor
