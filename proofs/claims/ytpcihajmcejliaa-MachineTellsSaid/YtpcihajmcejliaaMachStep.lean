/- The walk of the machine's step: each order does to the machine in memory what stepF says. -/
import Derived.Test.YtpcihajmcejliaaMachSt
import Derived.Test.YtpcihajmcejliaaMachW
import Derived.Test.YtpcihajmcejliaaOpIs
import Derived.RegionDies
namespace Go.Proofs.Ytpcihajmcejliaa
open Go.RowKit
open mst
namespace mst
/-- the program's machine in memory -/
def PMem (w : World) (B S : Nat) (cv : Value) (i0 i1 : List Int) (E st : Int) (σ : Mst) : Prop :=
  ∃ own f vl vh vi0 vi1 vc g0 g1, pm.Mem w B S own cv i0 i1 E st σ f vl vh vi0 vi1 vc g0 g1
theorem pm.Mem.ex {w : World} {B S : Nat} {own : Nat → Nat} {cv : Value} {i0 i1 : List Int} {E st : Int} {σ : Mst} {f : Nat → Value} {vl vh vi0 vi1 vc : Value} {g0 g1 : Nat}
    (h : pm.Mem w B S own cv i0 i1 E st σ f vl vh vi0 vi1 vc g0 g1) : PMem w B S cv i0 i1 E st σ := ⟨own, f, vl, vh, vi0, vi1, vc, g0, g1, h⟩
/-- behind a step: it goes on, or the run ends -/
def PStep (B S : Nat) (cv : Value) (i0 i1 : List Int) (E st : Int) (σ : Mst) (w : World) : Except Int Mst → Ending → World → Prop
  | .ok τ, e, w' => e = .returned (.tuple #[]) ∧ PMem w' B S cv i0 i1 E st τ ∧ Below B w w'
  | .error x, e, w' => e = .panicked (mw.stopV x) ∧ PMem w' B S cv i0 i1 E st σ ∧ Below B w w'
section
variable {w : World} {B S : Nat} {own : Nat → Nat} {cv : Value} {i0 i1 : List Int} {E st : Int} {σ : Mst} {f : Nat → Value} {vl vh vi0 vi1 vc : Value} {g0 g1 : Nat}
theorem pm.Mem.lt (h : pm.Mem w B S own cv i0 i1 E st σ f vl vh vi0 vi1 vc g0 g1) : S < w.heap.size := h.blk.lt
theorem pm.Mem.cpc (h : pm.Mem w B S own cv i0 i1 E st σ f vl vh vi0 vi1 vc g0 g1) : w.cell? ⟨S, 20, none⟩ = some (.int .i64 σ.pc) := by
  have := h.blk.cell (i := 20) (by decide); rwa [h.fs.pc] at this
theorem pm.Mem.cr (h : pm.Mem w B S own cv i0 i1 E st σ f vl vh vi0 vi1 vc g0 g1) (j : Nat) (hj : j < 8) : w.cell? ⟨S, 7 + j, none⟩ = some (.int .i64 (σ.r j)) := by
  have := h.blk.cell (i := 7 + j) (by omega); rwa [h.fs.rg j hj] at this
theorem pm.Mem.cw0 (h : pm.Mem w B S own cv i0 i1 E st σ f vl vh vi0 vi1 vc g0 g1) : w.cell? ⟨S, 15, none⟩ = some (.slice (some ⟨g0, 0, none⟩) σ.lo.length σ.lo.length) := by
  have := h.blk.cell (i := 15) (by decide); rwa [h.fs.w0] at this
theorem pm.Mem.cw1 (h : pm.Mem w B S own cv i0 i1 E st σ f vl vh vi0 vi1 vc g0 g1) : w.cell? ⟨S, 16, none⟩ = some (.slice (some ⟨g1, 0, none⟩) σ.hi.length σ.hi.length) := by
  have := h.blk.cell (i := 16) (by decide); rwa [h.fs.w1] at this
theorem pm.Mem.ci0 (h : pm.Mem w B S own cv i0 i1 E st σ f vl vh vi0 vi1 vc g0 g1) : w.cell? ⟨S, 17, none⟩ = some vi0 := by
  have := h.blk.cell (i := 17) (by decide); rwa [h.fs.i0] at this
theorem pm.Mem.ci1 (h : pm.Mem w B S own cv i0 i1 E st σ f vl vh vi0 vi1 vc g0 g1) : w.cell? ⟨S, 18, none⟩ = some vi1 := by
  have := h.blk.cell (i := 18) (by decide); rwa [h.fs.i1] at this
theorem pm.Mem.ccl (h : pm.Mem w B S own cv i0 i1 E st σ f vl vh vi0 vi1 vc g0 g1) : w.cell? ⟨S, 19, none⟩ = some vc := by
  have := h.blk.cell (i := 19) (by decide); rwa [h.fs.cl] at this
theorem pm.Mem.clw (h : pm.Mem w B S own cv i0 i1 E st σ f vl vh vi0 vi1 vc g0 g1) : w.cell? ⟨S, 1, none⟩ = some vl := by
  have := h.blk.cell (i := 1) (by decide); rwa [h.fs.lw] at this
theorem pm.Mem.chg (h : pm.Mem w B S own cv i0 i1 E st σ f vl vh vi0 vi1 vc g0 g1) : w.cell? ⟨S, 2, none⟩ = some vh := by
  have := h.blk.cell (i := 2) (by decide); rwa [h.fs.hg] at this
theorem pm.Mem.cu0 (h : pm.Mem w B S own cv i0 i1 E st σ f vl vh vi0 vi1 vc g0 g1) : w.cell? ⟨S, 3, none⟩ = some (.int .i64 σ.u0) := by
  have := h.blk.cell (i := 3) (by decide); rwa [h.fs.u0] at this
theorem pm.Mem.cu1 (h : pm.Mem w B S own cv i0 i1 E st σ f vl vh vi0 vi1 vc g0 g1) : w.cell? ⟨S, 4, none⟩ = some (.int .i64 σ.u1) := by
  have := h.blk.cell (i := 4) (by decide); rwa [h.fs.u1] at this
end
theorem wpStill_skip {P : Program} {ops : Array Oper} {w : World} {Q : Act → Prop} {a : Act} {o : Oper} {rest : List Oper} (hw : Region.wanted o (yielded ops a.tmps) = false)
    (h : wpStill P ops w Q rest (a.put o.dst undef)) : wpStill P ops w Q (o :: rest) a := by
  unfold wpStill; rw [hw]; exact h
theorem frozen_ad {w : World} {o : Obj} {S k : Nat} (h : S < w.heap.size) (hf : w.frozen? ⟨S, k, none⟩ = false) : (w.alloc o).drew.frozen? ⟨S, k, none⟩ = false :=
  (((Below.refl w.heap.size w).alloc (Nat.le_refl _) o).frozen (p := ⟨S, k, none⟩) h).trans hf
theorem box_cell {w : World} {cs : Array Value} {T n k j : Nat} {v : Value} (hs : w.heap.size = n) (hv : cs[j]? = some v) : ((w.alloc (.cells cs T)).drewN k).cell? ⟨n, j, none⟩ = some v := by
  subst hs
  exact (cell_of_row _ _ j _ _ _ (heap_alloc_new w (.cells cs T))).trans hv
theorem below_drewN {B : Nat} {a w : World} (h : Below B a w) (n : Nat) : Below B a (w.drewN n) := ⟨h.os, h.tape, h.output, h.size, h.block⟩
end mst
end Go.Proofs.Ytpcihajmcejliaa
