/- The walk of the reference's step, some of its orders. -/
import Derived.Test.YtpcihajmcejliaaMachRStep
import Derived.Deep.AppendLies
import Derived.OwnWalk
namespace Go.Proofs.Ytpcihajmcejliaa
open Go.RowKit
open mst
namespace mst
theorem rnews_one {w : World} {x : Value} {t : TypeId} {k : Nat} (hs : w.heap.size = k) : ∀ j u, [x][j]? = some u → (w.alloc (.cells #[x] t)).cell? ((⟨k, 0, none⟩ : Addr).add j) = some u := by
  subst hs; exact cell_one_new w x t
theorem rinfo2 : (Try.prog.info? 2).map (fun i => (i.zero, i.size, i.bytes)) = some (some (.int .i64 0), 1, 8) := by kernel_rfl
theorem rinfo3 : (Try.prog.info? 3).map (fun i => (i.zero, i.size, i.bytes)) = some (some (.int .i64 0), 1, 8) := by kernel_rfl
set_option maxRecDepth 100000 in
set_option maxHeartbeats 4000000 in
theorem r11 {w : World} {B S : Nat} {own : Nat → Nat} {i0 i1 : List Int} {E st : Int} {σ : Mst} {f : Nat → Value} {vl vh vi0 vi1 vc : Value} {g0 g1 gr : Nat} (h : rm.Mem w B S own i0 i1 E st σ f vl vh vi0 vi1 vc g0 g1 gr) (hpc : 0 ≤ σ.pc ∧ σ.pc ≤ 30000) (n : Int) (hc : σ.calls.length < 30) :
    Calls Try.prog 28 #[.pointer (some ⟨S, 0, none⟩), .agg #[.int .i64 11, .int .i64 0, .int .i64 0, .int .i64 0, .int .i64 n]] w (RStep B S i0 i1 E st σ w (.ok { σ with calls := σ.calls ++ [σ.pc + 1], pc := n })) := by
  have hlt := h.lt
  have hgl := h.ltr
  have hne := h.ne
  have hne2 : gr ≠ S := fun e => hne e.symm
  have c6 := h.crs
  have c12 := h.cpc
  have f12 := h.blk.frozen 12
  obtain ⟨pc, hpce⟩ : ∃ pc, σ.pc = pc := ⟨_, rfl⟩
  rw [hpce] at hpc c12
  have HP := Lib.hid hpce
  clear hpce
  have hBw : B ≤ w.heap.size := Nat.le_trans h.hS (Nat.le_of_lt hlt)
  have n1 : S ≠ w.heap.size := by omega
  have n2 : w.heap.size ≠ S := by omega
  obtain ⟨A, cap, hvc⟩ : ∃ A c, vc = .slice A σ.calls.length c := by
    rcases h.cl.1.2 with ⟨hh, h0⟩ | ⟨g', cap', cur, hv, _⟩
    · exact ⟨_, _, by rw [hh, h0]⟩
    · exact ⟨_, _, hv⟩
  have c11 := h.ccl
  have f11 := h.blk.frozen 11
  have hSo : vc.ownBlock ≠ some S := fun e => by have := h.cl.2 S e; rw [h.oS] at this; cases this
  have hBo : ∀ k, vc.ownBlock = some k → B ≤ k := by
    intro k hk
    rcases h.cl.1.2 with ⟨hh, h0⟩ | ⟨g', cap', cur, hv, hb, _⟩
    · rw [hh] at hk; cases hk
    · rw [hv] at hk; cases hk; exact hb
  have hlo : ∀ k, vc.ownBlock = some k → k < w.heap.size := by
    intro k hk
    rcases h.cl.1.2 with ⟨hh, h0⟩ | ⟨g', cap', cur, hv, hb, hg, _⟩
    · rw [hh] at hk; cases hk
    · rw [hv] at hk; cases hk; exact (Array.getElem?_eq_some_iff.1 hg).1
  have hcl := h.cl.1
  obtain ⟨i0_, hi, hz0, hz1, hz2⟩ := info_parts rinfo3
  have hM : ∀ o o', ∃ x, x = ((h.alloc o).alloc o') := fun _ _ => ⟨_, rfl⟩
  clear hM
  obtain ⟨m, hm⟩ : ∃ m, σ.calls.length = m := ⟨_, rfl⟩
  rw [hm] at hvc hc hcl
  subst hvc
  have HM := Lib.hid hm
  have hd : decide ((30 : Int) ≤ (m : Int)) = false := by simp; omega
  clear hm
  go_enter Try.func28, Try.ntmps28
  go_wp2_with (at_builtin; refine wpList_append_lies _ rfl _ _ 42 rfl B 3 i0_ (.int .i64 0) 1 8 Try.underlying42 hi hz0 hz1 hz2 rfl (by decide) _ _ _ rfl ((hcl.alloc _).alloc _) ⟨w.heap.size + 1, 0, none⟩ 1 1 [.int .i64 (pc + 1)] rfl rfl (rnews_one (by simp)) (ints_oneCell _ [_]) (by decide) (by unfold maxLen; omega) (by omega) (by simp; omega) (w.heap.size + 2) (by simp) ?_; intro g cap' w1 hown hgrow hat hlt1; have f11' := (hgrow.frozen_far ⟨S, 11, none⟩ (by simp; omega) (Ne.symm hSo)); have f12' := (hgrow.frozen_far ⟨S, 12, none⟩ (by simp; omega) (Ne.symm hSo)); have c11' := (hgrow.cell_far ⟨S, 11, none⟩ (by simp; omega) (Ne.symm hSo)); have c12' := (hgrow.cell_far ⟨S, 12, none⟩ (by simp; omega) (Ne.symm hSo)); have b4 := (hgrow.cell_far ⟨w.heap.size, 4, none⟩ (by simp; omega) (fun e => absurd (hlo _ e.symm) (Nat.lt_irrefl _))); rw [World.cell?_alloc_lt _ _ _ (by simp; omega), World.cell?_alloc_lt _ _ _ (by simpa using hlt), c11] at c11'; rw [World.cell?_alloc_lt _ _ _ (by simp; omega), World.cell?_alloc_lt _ _ _ (by simpa using hlt), c12] at c12')
  go_ret
  have hm' := ((h.alloc _).alloc _).call (x := pc + 1) (H := w.heap.size + 2) (g := g) (cap := cap') (w1 := w1) (by simp) (by rw [HM.out]; exact hown) hgrow hat
  rw [HM.out] at hm'
  obtain ⟨own', hm'⟩ := hm'
  rw [HP.out]
  exact ⟨rfl, (hm'.setPc n).ex, (((((Below.refl _ _).alloc hBw _).alloc (by simp; omega) _).grown hgrow (by simp; omega) hBo).setCell h.hS _).setCell h.hS _⟩

set_option maxRecDepth 100000 in
set_option maxHeartbeats 4000000 in
theorem r11x {w : World} {B S : Nat} {own : Nat → Nat} {i0 i1 : List Int} {E st : Int} {σ : Mst} {f : Nat → Value} {vl vh vi0 vi1 vc : Value} {g0 g1 gr : Nat} (h : rm.Mem w B S own i0 i1 E st σ f vl vh vi0 vi1 vc g0 g1 gr) (hpc : 0 ≤ σ.pc ∧ σ.pc ≤ 30000) (n : Int) (hc : ¬ σ.calls.length < 30) :
    Calls Try.prog 28 #[.pointer (some ⟨S, 0, none⟩), .agg #[.int .i64 11, .int .i64 0, .int .i64 0, .int .i64 0, .int .i64 n]] w (RStep B S i0 i1 E st σ w (.error 5)) := by
  have hlt := h.lt
  have hgl := h.ltr
  have hne := h.ne
  have hne2 : gr ≠ S := fun e => hne e.symm
  have c6 := h.crs
  have c12 := h.cpc
  have f12 := h.blk.frozen 12
  obtain ⟨pc, hpce⟩ : ∃ pc, σ.pc = pc := ⟨_, rfl⟩
  rw [hpce] at hpc c12
  have HP := Lib.hid hpce
  clear hpce
  have hBw : B ≤ w.heap.size := Nat.le_trans h.hS (Nat.le_of_lt hlt)
  have n1 : S ≠ w.heap.size := by omega
  have n2 : w.heap.size ≠ S := by omega
  obtain ⟨A, cap, hvc⟩ : ∃ A c, vc = .slice A σ.calls.length c := by
    rcases h.cl.1.2 with ⟨hh, h0⟩ | ⟨g', cap', cur, hv, _⟩
    · exact ⟨_, _, by rw [hh, h0]⟩
    · exact ⟨_, _, hv⟩
  have c11 := h.ccl
  obtain ⟨m, hm⟩ : ∃ m, σ.calls.length = m := ⟨_, rfl⟩
  rw [hm] at hvc hc
  subst hvc
  clear hm
  have hd : decide ((30 : Int) ≤ (m : Int)) = true := by simp; omega
  go_enter Try.func28, Try.ntmps28
  go_wp2_with fail
  go_ret
  exact ⟨rfl, (h.alloc _).ex, ((Below.refl _ _).alloc hBw _)⟩

end mst
end Go.Proofs.Ytpcihajmcejliaa
