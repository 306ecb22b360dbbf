/- The walk of the reference's May: a face. -/
import Derived.Test.YtpcihajmcejliabDoorFaceR
import Derived.Test.YtpcihajmcejliabDoorName
import Derived.Deep.RegionHeld3
namespace Go.Proofs.YtpcihajmcejliabDoor
open Go.RowKit
namespace rface
open face
/-- words laid behind one another -/
def wordCells (l : List ByteArray) : List Value := l.map Value.string
theorem wordCells_snoc (l : List ByteArray) (x : ByteArray) : wordCells (l ++ [x]) = wordCells l ++ [.string x] := by simp [wordCells]
theorem words_in {w : World} {B : Nat} {e : TypeId} {v : Value} {l : List ByteArray} (h : w.ownsRow B e 1 v l.length (wordCells l)) :
    ∃ a c, v = .slice a l.length c ∧ AllIn 1 WordIn w a l ∧ l.length ≤ c ∧ c ≤ maxLen ∧ (∀ g o, a = some ⟨g, o, none⟩ → o = 0 ∧ g < w.heap.size ∧ B ≤ g) := by
  rcases h.2 with ⟨rfl, hz⟩ | ⟨g, cap, cur, rfl, hg, hh, hr⟩
  · refine ⟨none, 0, by rw [hz], fun j hj => by omega, by omega, Nat.zero_le _, fun g o e => by cases e⟩
  · have hlt := h.lt g rfl
    refine ⟨some ⟨g, 0, none⟩, cap, rfl, fun j hj => ⟨g, 0, rfl, hlt.2, ?_⟩, hr.1, hr.2.1, fun g' o e => ?_⟩
    · unfold WordIn
      have := h.cellAt j (by omega)
      simp only [Nat.zero_add, Nat.mul_one]
      refine this.trans ?_
      simp [wordCells, hj]
    · cases e
      exact ⟨rfl, hlt.2, hlt.1⟩
def wordsOf (f : FFace) : List ByteArray := f.vars.map FVar.name ++ f.procs.map FProc.name
theorem words_keys (f : FFace) : ((wordsOf f).map fun x => x.data.toList) = f.keys := by
  simp only [wordsOf, FFace.keys, List.map_append, List.map_map]; rfl
theorem words_len (f : FFace) : (wordsOf f).length = f.vars.length + f.procs.length := by simp [wordsOf]
theorem words_var (f : FFace) (k : Nat) (h : k < f.vars.length) : (wordsOf f).take (k + 1) = (wordsOf f).take k ++ [f.vars[k].name] := by
  have h2 : k < (wordsOf f).length := by rw [words_len]; omega
  rw [List.take_succ_eq_append_getElem h2]
  congr 2
  simp [wordsOf, h]
theorem words_proc (f : FFace) (n : Nat) (hn : f.vars.length = n) (j : Nat) (h : j < f.procs.length) : (wordsOf f).take (n + j + 1) = (wordsOf f).take (n + j) ++ [f.procs[j].name] := by
  subst hn
  have h2 : f.vars.length + j < (wordsOf f).length := by rw [words_len]; omega
  rw [List.take_succ_eq_append_getElem h2]
  congr 2
  simp [wordsOf]
theorem AllIn.takeN {α : Type} {k : Nat} {In : World → Nat → Nat → α → Prop} {w : World} {a : Option Addr} {l : List α} (h : AllIn k In w a l) (n : Nat) : AllIn k In w a (l.take n) := fun j hj => by
  have hj' : j < l.length := by rw [List.length_take] at hj; omega
  have := h j hj'
  rwa [List.getElem_take]
theorem words_size {f : FFace} {w : World} {a c : Option Addr} (ha : AllIn 4 VarIn w a f.vars) (hc : AllIn 6 ProcIn w c f.procs) : ∀ s ∈ wordsOf f, s.size ≤ maxLen := by
  intro s hs
  simp only [wordsOf, List.mem_append, List.mem_map] at hs
  rcases hs with ⟨v, hv, rfl⟩ | ⟨v, hv, rfl⟩
  · obtain ⟨j, hj, rfl⟩ := List.getElem_of_mem hv
    obtain ⟨b, o, _, _, h⟩ := ha j hj
    exact h.2.2.2.2
  · obtain ⟨j, hj, rfl⟩ := List.getElem_of_mem hv
    obtain ⟨b, o, _, _, h⟩ := hc j hj
    exact h.2.2.2.2.2.2
theorem key_at {L : List ByteArray} {K : List (List UInt8)} (h : (L.map fun x => x.data.toList) = K) (q : Nat) (hq : q < L.length) (hk : q < K.length) : K[q] = L[q].data.toList ∧ K.take q = (L.take q).map fun x => x.data.toList := by
  subst h
  simp
theorem sl_keep {w w1 : World} {p : Addr} {v : Value} (hE : Ext w w1) (hc : w.cell? p = some v) (hp : p.block < w.heap.size) : w1.cell? p = some v ∧ Ext w w1 := ⟨(hE.cell hp id).trans hc, hE⟩
theorem sl_next {C : Prop} {w w1 w2 : World} (h : C ∧ Ext w w1) (h2 : Ext w1 w2) : Ext w w2 := h.2.ext h2
end rface
end Go.Proofs.YtpcihajmcejliabDoor
