/- The walk of the reference's step, some of its orders. -/
import Derived.Test.YtpcihajmcejliaaMachRStepL
import Derived.Test.YtpcihajmcejliaaMachStepM
import Derived.Deep.RegionLaw
namespace Go.Proofs.Ytpcihajmcejliaa
open Go.RowKit
open mst
namespace mst
set_option maxRecDepth 100000 in
set_option maxHeartbeats 4000000 in
theorem r14 {w : World} {B S : Nat} {own : Nat → Nat} {i0 i1 : List Int} {E st : Int} {σ : Mst} {f : Nat → Value} {vl vh vi0 vi1 vc : Value} {g0 g1 gr : Nat} (h : rm.Mem w B S own i0 i1 E st σ f vl vh vi0 vi1 vc g0 g1 gr) (hpc : 0 ≤ σ.pc ∧ σ.pc ≤ 30000) (a : Nat) (ha : a < 8) (ho : σ.o1.length ≤ 100000) :
    Calls Try.prog 28 #[.pointer (some ⟨S, 0, none⟩), .agg #[.int .i64 14, .int .i64 a, .int .i64 0, .int .i64 0, .int .i64 0]] w (RStep B S i0 i1 E st σ w (goOn σ { σ with o1 := σ.o1 ++ [σ.r a] })) := by
  have hlt := h.lt
  have hgl := h.ltr
  have hne := h.ne
  have hne2 : gr ≠ S := fun e => hne e.symm
  have c6 := h.crs
  have c12 := h.cpc
  have f12 := h.blk.frozen 12
  obtain ⟨pc, hpce⟩ : ∃ pc, σ.pc = pc := ⟨_, rfl⟩
  rw [hpce] at hpc c12
  have HP := Lib.hid hpce
  clear hpce
  have hBw : B ≤ w.heap.size := Nat.le_trans h.hS (Nat.le_of_lt hlt)
  have n1 : S ≠ w.heap.size := by omega
  have n2 : w.heap.size ≠ S := by omega
  have a' : (a : Int) < 8 := by omega
  have cr0 := h.cr a ha
  obtain ⟨ra, hra⟩ : ∃ x, σ.r a = x := ⟨_, rfl⟩
  rw [hra] at cr0 ⊢
  have HA := Lib.hid hra
  clear hra
  have cl := h.chg
  have fl := h.blk.frozen 2
  have hSo : vh.ownBlock ≠ some S := fun e => by have := h.oh.2 S e; rw [h.oS] at this; cases this
  have hBo : ∀ k, vh.ownBlock = some k → B ≤ k := by
    intro k hk
    rcases h.oh.1.2 with ⟨hh, h0⟩ | ⟨g', cap', cur, hv, hb, _⟩
    · rw [hh] at hk; cases hk
    · rw [hv] at hk; cases hk; exact hb
  have hlo : ∀ k, vh.ownBlock = some k → k < w.heap.size := by
    intro k hk
    rcases h.oh.1.2 with ⟨hh, h0⟩ | ⟨g', cap', cur, hv, hb, hg, _⟩
    · rw [hh] at hk; cases hk
    · rw [hv] at hk; cases hk; exact (Array.getElem?_eq_some_iff.1 hg).1
  obtain ⟨i0_, hi, hz0, hz1, hz2⟩ := info_parts rinfo2
  have H1 := Lib.hid hSo
  have H2 := Lib.hid hBo
  have H3 := Lib.hid hlo
  clear hSo hBo hlo
  go_enter Try.func28, Try.ntmps28
  go_wp2_with fail
  go_region_law ((refine step_append_lies _ (by rfl) _ _ 31 (by rfl) B 2 i0_ (.int .i64 0) 1 8 Try.underlying31 hi hz0 hz1 hz2 rfl (by decide) _ _ _ (by rfl) (((h.alloc _).drew.alloc _).oh.1) ⟨w.heap.size + 1, 0, none⟩ 1 1 [.int .i64 ra] (by rfl) (by rfl) (rnews_one (by simp)) (ints_oneCell _ [_]) (by decide) (by unfold maxLen; omega) (by omega) (by simp; omega) (w.heap.size + 2) (by simp) ?_; intro g cap' w1 hown hgrow hat hlt1; have f1' := (hgrow.frozen_far ⟨S, 2, none⟩ (by simp; omega) (Ne.symm H1.out)).trans (frozen_ada hlt fl); have f12' := (hgrow.frozen_far ⟨S, 12, none⟩ (by simp; omega) (Ne.symm H1.out)).trans (frozen_ada hlt f12); have c1' := (hgrow.cell_far ⟨S, 2, none⟩ (by simp; omega) (Ne.symm H1.out)).trans (cell_ad (cell_al cl)); have c12' := (hgrow.cell_far ⟨S, 12, none⟩ (by simp; omega) (Ne.symm H1.out)).trans (cell_ad (cell_al c12))))
  all_goals
    go_wp2_with fail
    go_ret
    have hm' := ((h.alloc _).drew.alloc _).out1 (x := ra) (H := w.heap.size + 2) (g := g) (cap := cap') (w1 := w1) (by simp) hown hgrow hat
    obtain ⟨own', hm'⟩ := hm'
    rw [← HP.out]
    exact ⟨rfl, (hm'.setPc _).ex, ((((((Below.refl _ _).alloc hBw _).drew).alloc (by simp; omega) _).grown hgrow (by simp; omega) H2.out).setCell h.hS _).setCell h.hS _⟩

end mst
end Go.Proofs.Ytpcihajmcejliaa
