/- The reference's machine in memory, and what a step of it comes to. -/
import Derived.Test.YtpcihajmcejliaaMachStep
namespace Go.Proofs.Ytpcihajmcejliaa
open Go.RowKit
open mst
namespace mst
/-- the reference's machine in memory -/
def RMem (w : World) (B S : Nat) (i0 i1 : List Int) (E st : Int) (σ : Mst) : Prop :=
  ∃ own f vl vh vi0 vi1 vc g0 g1 gr, rm.Mem w B S own i0 i1 E st σ f vl vh vi0 vi1 vc g0 g1 gr
theorem rm.Mem.ex {w : World} {B S : Nat} {own : Nat → Nat} {i0 i1 : List Int} {E st : Int} {σ : Mst} {f : Nat → Value} {vl vh vi0 vi1 vc : Value} {g0 g1 gr : Nat}
    (h : rm.Mem w B S own i0 i1 E st σ f vl vh vi0 vi1 vc g0 g1 gr) : RMem w B S i0 i1 E st σ := ⟨own, f, vl, vh, vi0, vi1, vc, g0, g1, gr, h⟩
/-- behind a step: nought, it goes on; else how the run ends -/
def RStep (B S : Nat) (i0 i1 : List Int) (E st : Int) (σ : Mst) (w : World) : Except Int Mst → Ending → World → Prop
  | .ok τ, e, w' => e = .returned (.int .i64 0) ∧ RMem w' B S i0 i1 E st τ ∧ Below B w w'
  | .error x, e, w' => e = .returned (.int .i64 x) ∧ RMem w' B S i0 i1 E st σ ∧ Below B w w'
section
variable {w : World} {B S : Nat} {own : Nat → Nat} {i0 i1 : List Int} {E st : Int} {σ : Mst} {f : Nat → Value} {vl vh vi0 vi1 vc : Value} {g0 g1 gr : Nat}
theorem rm.Mem.lt (h : rm.Mem w B S own i0 i1 E st σ f vl vh vi0 vi1 vc g0 g1 gr) : S < w.heap.size := h.blk.lt
theorem rm.Mem.ltr (h : rm.Mem w B S own i0 i1 E st σ f vl vh vi0 vi1 vc g0 g1 gr) : gr < w.heap.size := h.rg.lt
theorem rm.Mem.ne (h : rm.Mem w B S own i0 i1 E st σ f vl vh vi0 vi1 vc g0 g1 gr) : S ≠ gr := fun e => by have := h.og; rw [← e, h.oS] at this; cases this
theorem rm.Mem.crs (h : rm.Mem w B S own i0 i1 E st σ f vl vh vi0 vi1 vc g0 g1 gr) : w.cell? ⟨S, 6, none⟩ = some (.slice (some ⟨gr, 0, none⟩) 8 8) := by
  have := h.blk.cell (i := 6) (by decide); rwa [h.fs.rs] at this
theorem rm.Mem.cpc (h : rm.Mem w B S own i0 i1 E st σ f vl vh vi0 vi1 vc g0 g1 gr) : w.cell? ⟨S, 12, none⟩ = some (.int .i64 σ.pc) := by
  have := h.blk.cell (i := 12) (by decide); rwa [h.fs.pc] at this
theorem rm.Mem.cr (h : rm.Mem w B S own i0 i1 E st σ f vl vh vi0 vi1 vc g0 g1 gr) (j : Nat) (hj : j < 8) : w.cell? ⟨gr, j, none⟩ = some (.int .i64 (σ.r j)) := h.rg.cell hj
theorem rm.Mem.cw0 (h : rm.Mem w B S own i0 i1 E st σ f vl vh vi0 vi1 vc g0 g1 gr) : w.cell? ⟨S, 7, none⟩ = some (.slice (some ⟨g0, 0, none⟩) σ.lo.length σ.lo.length) := by
  have := h.blk.cell (i := 7) (by decide); rwa [h.fs.w0] at this
theorem rm.Mem.cw1 (h : rm.Mem w B S own i0 i1 E st σ f vl vh vi0 vi1 vc g0 g1 gr) : w.cell? ⟨S, 8, none⟩ = some (.slice (some ⟨g1, 0, none⟩) σ.hi.length σ.hi.length) := by
  have := h.blk.cell (i := 8) (by decide); rwa [h.fs.w1] at this
theorem rm.Mem.ci0 (h : rm.Mem w B S own i0 i1 E st σ f vl vh vi0 vi1 vc g0 g1 gr) : w.cell? ⟨S, 9, none⟩ = some vi0 := by
  have := h.blk.cell (i := 9) (by decide); rwa [h.fs.i0] at this
theorem rm.Mem.ci1 (h : rm.Mem w B S own i0 i1 E st σ f vl vh vi0 vi1 vc g0 g1 gr) : w.cell? ⟨S, 10, none⟩ = some vi1 := by
  have := h.blk.cell (i := 10) (by decide); rwa [h.fs.i1] at this
theorem rm.Mem.ccl (h : rm.Mem w B S own i0 i1 E st σ f vl vh vi0 vi1 vc g0 g1 gr) : w.cell? ⟨S, 11, none⟩ = some vc := by
  have := h.blk.cell (i := 11) (by decide); rwa [h.fs.cl] at this
theorem rm.Mem.clw (h : rm.Mem w B S own i0 i1 E st σ f vl vh vi0 vi1 vc g0 g1 gr) : w.cell? ⟨S, 1, none⟩ = some vl := by
  have := h.blk.cell (i := 1) (by decide); rwa [h.fs.lw] at this
theorem rm.Mem.chg (h : rm.Mem w B S own i0 i1 E st σ f vl vh vi0 vi1 vc g0 g1 gr) : w.cell? ⟨S, 2, none⟩ = some vh := by
  have := h.blk.cell (i := 2) (by decide); rwa [h.fs.hg] at this
theorem rm.Mem.cu0 (h : rm.Mem w B S own i0 i1 E st σ f vl vh vi0 vi1 vc g0 g1 gr) : w.cell? ⟨S, 3, none⟩ = some (.int .i64 σ.u0) := by
  have := h.blk.cell (i := 3) (by decide); rwa [h.fs.u0] at this
theorem rm.Mem.cu1 (h : rm.Mem w B S own i0 i1 E st σ f vl vh vi0 vi1 vc g0 g1 gr) : w.cell? ⟨S, 4, none⟩ = some (.int .i64 σ.u1) := by
  have := h.blk.cell (i := 4) (by decide); rwa [h.fs.u1] at this
end
end mst
end Go.Proofs.Ytpcihajmcejliaa
