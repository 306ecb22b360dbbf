/- The walk of the machine's step, some of its orders. -/
import Derived.Test.YtpcihajmcejliaaMachStepL
import Derived.Deep.RegionLaw
namespace Go.Proofs.Ytpcihajmcejliaa
open Go.RowKit
open mst
namespace mst
theorem box_a {w : World} {cs : Array Value} {T j : Nat} {v : Value} (hv : cs[j]? = some v) : (w.alloc (.cells cs T)).cell? ⟨w.heap.size, j, none⟩ = some v :=
  (cell_of_row _ _ j _ _ _ (heap_alloc_new w (.cells cs T))).trans hv
theorem box_ad {w : World} {cs : Array Value} {T j : Nat} {v : Value} (hv : cs[j]? = some v) : (w.alloc (.cells cs T)).drew.cell? ⟨w.heap.size, j, none⟩ = some v :=
  (cell_of_row _ _ j _ _ _ (heap_alloc_new w (.cells cs T))).trans hv
theorem frozen_ada {w : World} {o o' : Obj} {S k : Nat} (h : S < w.heap.size) (hf : w.frozen? ⟨S, k, none⟩ = false) : ((w.alloc o).drew.alloc o').frozen? ⟨S, k, none⟩ = false :=
  (((Below.refl w.heap.size w).alloc (Nat.le_refl _) o).drew.alloc (by simp) o' |>.frozen (p := ⟨S, k, none⟩) h).trans hf
set_option maxRecDepth 100000 in
set_option maxHeartbeats 4000000 in
theorem p13 {w : World} {B S : Nat} {own : Nat → Nat} {cv : Value} {i0 i1 : List Int} {E st : Int} {σ : Mst} {f : Nat → Value} {vl vh vi0 vi1 vc : Value} {g0 g1 : Nat} (h : pm.Mem w B S own cv i0 i1 E st σ f vl vh vi0 vi1 vc g0 g1) (hpc : 0 ≤ σ.pc ∧ σ.pc ≤ 30000) (a : Nat) (ha : a < 8) (ho : σ.o0.length ≤ 100000) :
    Calls Try.prog 35 #[.pointer (some ⟨S, 0, none⟩), .agg #[.int .i64 13, .int .i64 a, .int .i64 0, .int .i64 0, .int .i64 0]] w (PStep B S cv i0 i1 E st σ w (goOn σ { σ with o0 := σ.o0 ++ [σ.r a] })) := by
  have hlt := h.lt
  have c20 := h.cpc
  have f20 := h.blk.frozen 20
  obtain ⟨pc, hpce⟩ : ∃ pc, σ.pc = pc := ⟨_, rfl⟩
  rw [hpce] at hpc c20
  have HP := Lib.hid hpce
  clear hpce
  have hBw : B ≤ w.heap.size := Nat.le_trans h.hS (Nat.le_of_lt hlt)
  have n1 : S ≠ w.heap.size := by omega
  have n2 : w.heap.size ≠ S := by omega
  have a' : (a : Int) < 8 := by omega
  have cr0 := h.cr a ha
  obtain ⟨ra, hra⟩ : ∃ x, σ.r a = x := ⟨_, rfl⟩
  rw [hra] at cr0 ⊢
  have HA := Lib.hid hra
  clear hra
  have cl := h.clw
  have fl := h.blk.frozen 1
  have hSo : vl.ownBlock ≠ some S := fun e => by have := h.ol.2 S e; rw [h.oS] at this; cases this
  have hBo : ∀ k, vl.ownBlock = some k → B ≤ k := by
    intro k hk
    rcases h.ol.1.2 with ⟨hh, h0⟩ | ⟨g', cap', cur, hv, hb, _⟩
    · rw [hh] at hk; cases hk
    · rw [hv] at hk; cases hk; exact hb
  have hlo : ∀ k, vl.ownBlock = some k → k < w.heap.size := by
    intro k hk
    rcases h.ol.1.2 with ⟨hh, h0⟩ | ⟨g', cap', cur, hv, hb, hg, _⟩
    · rw [hh] at hk; cases hk
    · rw [hv] at hk; cases hk; exact (Array.getElem?_eq_some_iff.1 hg).1
  obtain ⟨i0_, hi, hz0, hz1, hz2⟩ := info_parts info2
  have H1 := Lib.hid hSo
  have H2 := Lib.hid hBo
  have H3 := Lib.hid hlo
  clear hSo hBo hlo
  go_enter Try.func35, Try.ntmps35
  go_wp2_with fail
  go_region_law ((refine step_append_lies _ (by rfl) _ _ 31 (by rfl) B 2 i0_ (.int .i64 0) 1 8 Try.underlying31 hi hz0 hz1 hz2 rfl (by decide) _ _ _ (by rfl) (((h.alloc _).drew.alloc _).ol.1) ⟨w.heap.size + 1, 0, none⟩ 1 1 [.int .i64 ra] (by rfl) (by rfl) (news_one (by simp)) (ints_oneCell _ [_]) (by decide) (by unfold maxLen; omega) (by omega) (by simp; omega) (w.heap.size + 2) (by simp) ?_; intro g cap' w1 hown hgrow hat hlt1; have f1' := (hgrow.frozen_far ⟨S, 1, none⟩ (by simp; omega) (Ne.symm H1.out)).trans (frozen_ada hlt fl); have f20' := (hgrow.frozen_far ⟨S, 20, none⟩ (by simp; omega) (Ne.symm H1.out)).trans (frozen_ada hlt f20); have c1' := (hgrow.cell_far ⟨S, 1, none⟩ (by simp; omega) (Ne.symm H1.out)).trans (cell_ad (cell_al cl)); have c20' := (hgrow.cell_far ⟨S, 20, none⟩ (by simp; omega) (Ne.symm H1.out)).trans (cell_ad (cell_al c20))))
  all_goals
    go_wp2_with fail
    go_end0
    have hm' := ((h.alloc _).drew.alloc _).out0 (x := ra) (H := w.heap.size + 2) (g := g) (cap := cap') (w1 := w1) (by simp) hown hgrow hat
    obtain ⟨own', hm'⟩ := hm'
    rw [← HP.out]
    exact ⟨rfl, (hm'.setPc _).ex, ((((((Below.refl _ _).alloc hBw _).drew).alloc (by simp; omega) _).grown hgrow (by simp; omega) H2.out).setCell h.hS _).setCell h.hS _⟩

end mst
end Go.Proofs.Ytpcihajmcejliaa
