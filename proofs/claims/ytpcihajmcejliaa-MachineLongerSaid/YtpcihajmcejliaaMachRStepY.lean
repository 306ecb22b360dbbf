/- The walk of the reference's step, some of its orders. The walk of the reference's step, some of its orders. The walk of the reference's step, some of its orders. -/
import Derived.Test.YtpcihajmcejliaaMachRStep
namespace Go.Proofs.Ytpcihajmcejliaa
open Go.RowKit
open mst
namespace mst
set_option maxRecDepth 100000 in
set_option maxHeartbeats 4000000 in
theorem r15 {w : World} {B S : Nat} {own : Nat → Nat} {i0 i1 : List Int} {E st : Int} {σ : Mst} {f : Nat → Value} {vl vh vi0 vi1 vc : Value} {g0 g1 gr : Nat} (h : rm.Mem w B S own i0 i1 E st σ f vl vh vi0 vi1 vc g0 g1 gr) (hpc : 0 ≤ σ.pc ∧ σ.pc ≤ 30000) (a : Nat) (ha : a < 8) (hu : σ.u0 < i0.length) (hlen : i0.length ≤ 9223372036854775807) :
    Calls Try.prog 28 #[.pointer (some ⟨S, 0, none⟩), .agg #[.int .i64 15, .int .i64 a, .int .i64 0, .int .i64 0, .int .i64 0]] w (RStep B S i0 i1 E st σ w (goOn σ { upd σ a (i0.getD σ.u0 0) with u0 := σ.u0 + 1 })) := by
  have hlt := h.lt
  have hgl := h.ltr
  have hne := h.ne
  have hne2 : gr ≠ S := fun e => hne e.symm
  have c6 := h.crs
  have c12 := h.cpc
  have f12 := h.blk.frozen 12
  obtain ⟨pc, hpce⟩ : ∃ pc, σ.pc = pc := ⟨_, rfl⟩
  rw [hpce] at hpc c12
  have HP := Lib.hid hpce
  clear hpce
  have hBw : B ≤ w.heap.size := Nat.le_trans h.hS (Nat.le_of_lt hlt)
  have a' : (a : Int) < 8 := by omega
  have cr0 := h.cr a ha
  have cu := h.cu0
  have fa := h.rg.frozen a
  have fu := h.blk.frozen 3
  obtain ⟨A, cap, hv, hin⟩ := h.in0
  obtain ⟨g, o, rfl, hog, hcx⟩ := hin σ.u0 hu
  have ci := h.ci0
  rw [hv] at ci
  have hgl2 := World.block_lt_of_cell? w _ hcx
  have n1 : S ≠ w.heap.size := by omega
  have n2 : w.heap.size ≠ S := by omega
  have n3 : gr ≠ w.heap.size := by omega
  obtain ⟨x, hx⟩ : ∃ x, i0[σ.u0] = x := ⟨_, rfl⟩
  have hgd : i0.getD σ.u0 0 = x := by rw [← hx, List.getD_eq_getElem?_getD]; simp [hu]
  rw [hx] at hcx
  rw [hgd]
  obtain ⟨u, hue⟩ : ∃ u, σ.u0 = u := ⟨_, rfl⟩
  obtain ⟨len, hle⟩ : ∃ u, i0.length = u := ⟨_, rfl⟩
  have HU := Lib.hid hue
  rw [hue] at hu cu hcx ⊢
  rw [hle] at hu hlen ci
  clear hue hle hx hgd hin hv
  have hd : decide ((len : Int) ≤ (u : Int)) = false := by simp; omega
  have hui : (u : Int) < (len : Int) := by omega
  go_enter Try.func28, Try.ntmps28
  go_wp2_with fail
  go_quiet (fail)
  go_wp2_with fail
  refine region_tail 15 mw.mixed (by kernel_rfl) ?_
  simp only [List.take_succ_cons, List.take_zero, List.drop_succ_cons, List.drop_zero]
  repeat still_step
  refine wpStill_nil ?_
  go_wp2_with fail
  go_ret
  rw [← HP.out, ← HU.out]
  exact ⟨rfl, ((((h.alloc _).drewN _).setReg a x).incU0.setPc _).ex, (((below_drewN ((Below.refl _ _).alloc hBw _) _).setCell h.hg _).setCell h.hS _).setCell h.hS _⟩
set_option maxRecDepth 100000 in
set_option maxHeartbeats 4000000 in
theorem r15x {w : World} {B S : Nat} {own : Nat → Nat} {i0 i1 : List Int} {E st : Int} {σ : Mst} {f : Nat → Value} {vl vh vi0 vi1 vc : Value} {g0 g1 gr : Nat} (h : rm.Mem w B S own i0 i1 E st σ f vl vh vi0 vi1 vc g0 g1 gr) (hpc : 0 ≤ σ.pc ∧ σ.pc ≤ 30000) (a : Nat) (ha : a < 8) (hu : i0.length ≤ σ.u0) :
    Calls Try.prog 28 #[.pointer (some ⟨S, 0, none⟩), .agg #[.int .i64 15, .int .i64 a, .int .i64 0, .int .i64 0, .int .i64 0]] w (RStep B S i0 i1 E st σ w (.error 4)) := by
  have hlt := h.lt
  have hgl := h.ltr
  have hne := h.ne
  have hne2 : gr ≠ S := fun e => hne e.symm
  have c6 := h.crs
  have c12 := h.cpc
  have f12 := h.blk.frozen 12
  obtain ⟨pc, hpce⟩ : ∃ pc, σ.pc = pc := ⟨_, rfl⟩
  rw [hpce] at hpc c12
  have HP := Lib.hid hpce
  clear hpce
  have hBw : B ≤ w.heap.size := Nat.le_trans h.hS (Nat.le_of_lt hlt)
  have a' : (a : Int) < 8 := by omega
  have cr0 := h.cr a ha
  have cu := h.cu0
  obtain ⟨A, cap, hv, hin⟩ := h.in0
  have ci := h.ci0
  rw [hv] at ci
  obtain ⟨u, hue⟩ : ∃ u, σ.u0 = u := ⟨_, rfl⟩
  obtain ⟨len, hle⟩ : ∃ u, i0.length = u := ⟨_, rfl⟩
  rw [hue] at hu cu
  rw [hle] at hu ci
  clear hue hle hin hv
  have hd : decide ((len : Int) ≤ (u : Int)) = true := by simp; omega
  go_enter Try.func28, Try.ntmps28
  go_wp2_with fail
  go_quiet (fail)
  go_wp2_with fail
  go_ret
  exact ⟨rfl, ((h.alloc _).drewN _).ex, below_drewN ((Below.refl _ _).alloc hBw _) _⟩
end mst
end Go.Proofs.Ytpcihajmcejliaa
namespace Go.Proofs.Ytpcihajmcejliaa
open Go.RowKit
open mst
namespace mst
set_option maxRecDepth 100000 in
set_option maxHeartbeats 4000000 in
theorem r16 {w : World} {B S : Nat} {own : Nat → Nat} {i0 i1 : List Int} {E st : Int} {σ : Mst} {f : Nat → Value} {vl vh vi0 vi1 vc : Value} {g0 g1 gr : Nat} (h : rm.Mem w B S own i0 i1 E st σ f vl vh vi0 vi1 vc g0 g1 gr) (hpc : 0 ≤ σ.pc ∧ σ.pc ≤ 30000) (a : Nat) (ha : a < 8) (hu : σ.u1 < i1.length) (hlen : i1.length ≤ 9223372036854775807) :
    Calls Try.prog 28 #[.pointer (some ⟨S, 0, none⟩), .agg #[.int .i64 16, .int .i64 a, .int .i64 0, .int .i64 0, .int .i64 0]] w (RStep B S i0 i1 E st σ w (goOn σ { upd σ a (i1.getD σ.u1 0) with u1 := σ.u1 + 1 })) := by
  have hlt := h.lt
  have hgl := h.ltr
  have hne := h.ne
  have hne2 : gr ≠ S := fun e => hne e.symm
  have c6 := h.crs
  have c12 := h.cpc
  have f12 := h.blk.frozen 12
  obtain ⟨pc, hpce⟩ : ∃ pc, σ.pc = pc := ⟨_, rfl⟩
  rw [hpce] at hpc c12
  have HP := Lib.hid hpce
  clear hpce
  have hBw : B ≤ w.heap.size := Nat.le_trans h.hS (Nat.le_of_lt hlt)
  have a' : (a : Int) < 8 := by omega
  have cr0 := h.cr a ha
  have cu := h.cu1
  have fa := h.rg.frozen a
  have fu := h.blk.frozen 4
  obtain ⟨A, cap, hv, hin⟩ := h.in1
  obtain ⟨g, o, rfl, hog, hcx⟩ := hin σ.u1 hu
  have ci := h.ci1
  rw [hv] at ci
  have hgl2 := World.block_lt_of_cell? w _ hcx
  have n1 : S ≠ w.heap.size := by omega
  have n2 : w.heap.size ≠ S := by omega
  have n3 : gr ≠ w.heap.size := by omega
  obtain ⟨x, hx⟩ : ∃ x, i1[σ.u1] = x := ⟨_, rfl⟩
  have hgd : i1.getD σ.u1 0 = x := by rw [← hx, List.getD_eq_getElem?_getD]; simp [hu]
  rw [hx] at hcx
  rw [hgd]
  obtain ⟨u, hue⟩ : ∃ u, σ.u1 = u := ⟨_, rfl⟩
  obtain ⟨len, hle⟩ : ∃ u, i1.length = u := ⟨_, rfl⟩
  have HU := Lib.hid hue
  rw [hue] at hu cu hcx ⊢
  rw [hle] at hu hlen ci
  clear hue hle hx hgd hin hv
  have hd : decide ((len : Int) ≤ (u : Int)) = false := by simp; omega
  have hui : (u : Int) < (len : Int) := by omega
  go_enter Try.func28, Try.ntmps28
  go_wp2_with fail
  go_quiet (fail)
  go_wp2_with fail
  refine region_tail 15 mw.mixed (by kernel_rfl) ?_
  simp only [List.take_succ_cons, List.take_zero, List.drop_succ_cons, List.drop_zero]
  repeat still_step
  refine wpStill_nil ?_
  go_wp2_with fail
  go_ret
  rw [← HP.out, ← HU.out]
  exact ⟨rfl, ((((h.alloc _).drewN _).setReg a x).incU1.setPc _).ex, (((below_drewN ((Below.refl _ _).alloc hBw _) _).setCell h.hg _).setCell h.hS _).setCell h.hS _⟩
set_option maxRecDepth 100000 in
set_option maxHeartbeats 4000000 in
theorem r16x {w : World} {B S : Nat} {own : Nat → Nat} {i0 i1 : List Int} {E st : Int} {σ : Mst} {f : Nat → Value} {vl vh vi0 vi1 vc : Value} {g0 g1 gr : Nat} (h : rm.Mem w B S own i0 i1 E st σ f vl vh vi0 vi1 vc g0 g1 gr) (hpc : 0 ≤ σ.pc ∧ σ.pc ≤ 30000) (a : Nat) (ha : a < 8) (hu : i1.length ≤ σ.u1) :
    Calls Try.prog 28 #[.pointer (some ⟨S, 0, none⟩), .agg #[.int .i64 16, .int .i64 a, .int .i64 0, .int .i64 0, .int .i64 0]] w (RStep B S i0 i1 E st σ w (.error 4)) := by
  have hlt := h.lt
  have hgl := h.ltr
  have hne := h.ne
  have hne2 : gr ≠ S := fun e => hne e.symm
  have c6 := h.crs
  have c12 := h.cpc
  have f12 := h.blk.frozen 12
  obtain ⟨pc, hpce⟩ : ∃ pc, σ.pc = pc := ⟨_, rfl⟩
  rw [hpce] at hpc c12
  have HP := Lib.hid hpce
  clear hpce
  have hBw : B ≤ w.heap.size := Nat.le_trans h.hS (Nat.le_of_lt hlt)
  have a' : (a : Int) < 8 := by omega
  have cr0 := h.cr a ha
  have cu := h.cu1
  obtain ⟨A, cap, hv, hin⟩ := h.in1
  have ci := h.ci1
  rw [hv] at ci
  obtain ⟨u, hue⟩ : ∃ u, σ.u1 = u := ⟨_, rfl⟩
  obtain ⟨len, hle⟩ : ∃ u, i1.length = u := ⟨_, rfl⟩
  rw [hue] at hu cu
  rw [hle] at hu ci
  clear hue hle hin hv
  have hd : decide ((len : Int) ≤ (u : Int)) = true := by simp; omega
  go_enter Try.func28, Try.ntmps28
  go_wp2_with fail
  go_quiet (fail)
  go_wp2_with fail
  go_ret
  exact ⟨rfl, ((h.alloc _).drewN _).ex, below_drewN ((Below.refl _ _).alloc hBw _) _⟩
end mst
end Go.Proofs.Ytpcihajmcejliaa
namespace Go.Proofs.Ytpcihajmcejliaa
open Go.RowKit
open mst
namespace mst
set_option maxRecDepth 100000 in
set_option maxHeartbeats 4000000 in
theorem r12 {w : World} {B S : Nat} {own : Nat → Nat} {i0 i1 : List Int} {E st : Int} {σ : Mst} {f : Nat → Value} {vl vh vi0 vi1 vc : Value} {g0 g1 gr : Nat} (h : rm.Mem w B S own i0 i1 E st σ f vl vh vi0 vi1 vc g0 g1 gr) (hpc : 0 ≤ σ.pc ∧ σ.pc ≤ 30000) (hn : σ.calls.length ≠ 0) (hc : σ.calls.length ≤ 30) :
    Calls Try.prog 28 #[.pointer (some ⟨S, 0, none⟩), .agg #[.int .i64 12, .int .i64 0, .int .i64 0, .int .i64 0, .int .i64 0]] w (RStep B S i0 i1 E st σ w (.ok { σ with calls := σ.calls.take (σ.calls.length - 1), pc := σ.calls.getD (σ.calls.length - 1) 0 })) := by
  have hlt := h.lt
  have hgl := h.ltr
  have hne := h.ne
  have hne2 : gr ≠ S := fun e => hne e.symm
  have c6 := h.crs
  have c12 := h.cpc
  have f12 := h.blk.frozen 12
  obtain ⟨pc, hpce⟩ : ∃ pc, σ.pc = pc := ⟨_, rfl⟩
  rw [hpce] at hpc c12
  have HP := Lib.hid hpce
  clear hpce
  have hBw : B ≤ w.heap.size := Nat.le_trans h.hS (Nat.le_of_lt hlt)
  have n1 : S ≠ w.heap.size := by omega
  have n2 : w.heap.size ≠ S := by omega
  obtain ⟨g, cap, hvc, hgB, hglt⟩ := h.cl.1.form (by omega)
  subst hvc
  have c11 := h.ccl
  have f11 := h.blk.frozen 11
  obtain ⟨m, hm⟩ : ∃ m, σ.calls.length = m + 1 := ⟨σ.calls.length - 1, by omega⟩
  have cx := h.cl.1.cellAt m (by omega)
  obtain ⟨x, hx⟩ : ∃ x, σ.calls.getD m 0 = x := ⟨_, rfl⟩
  have hx' : (ints σ.calls)[m]? = some (.int .i64 x) := by
    rw [← hx]; simp [ints, List.getD_eq_getElem?_getD, hm]
  rw [hx'] at cx
  rw [show σ.calls.length - 1 = m from by omega, hx]
  have hcap : m + 1 ≤ cap := by
    rcases h.cl.1.2 with ⟨hh, _⟩ | ⟨g', cap', cur, hv, _, _, hnc, _⟩
    · simp at hh
    · simp only [Value.slice.injEq] at hv; omega
  rw [hm] at c11 hc hn
  have hm30 : m ≤ 30 := by omega
  have hgS : g ≠ S := by
    intro e
    have := h.cl.2 g rfl
    rw [e, h.oS] at this
    cases this
  have hcapi : (m : Int) ≤ (cap : Int) := by omega
  have HM := Lib.hid hm
  clear hm hx hx' hn hc
  go_enter Try.func28, Try.ntmps28
  go_wp2_with fail
  go_ret
  exact ⟨rfl, (((h.back (m := m) (by rw [HM.out])).setPc x).alloc _).ex, (((Below.refl _ _).setCell h.hS _).setCell h.hS _).alloc (by simpa using hBw) _⟩
set_option maxRecDepth 100000 in
set_option maxHeartbeats 4000000 in
theorem r12x {w : World} {B S : Nat} {own : Nat → Nat} {i0 i1 : List Int} {E st : Int} {σ : Mst} {f : Nat → Value} {vl vh vi0 vi1 vc : Value} {g0 g1 gr : Nat} (h : rm.Mem w B S own i0 i1 E st σ f vl vh vi0 vi1 vc g0 g1 gr) (hpc : 0 ≤ σ.pc ∧ σ.pc ≤ 30000) (hn : σ.calls.length = 0) :
    Calls Try.prog 28 #[.pointer (some ⟨S, 0, none⟩), .agg #[.int .i64 12, .int .i64 0, .int .i64 0, .int .i64 0, .int .i64 0]] w (RStep B S i0 i1 E st σ w (.error 6)) := by
  have hlt := h.lt
  have hgl := h.ltr
  have hne := h.ne
  have hne2 : gr ≠ S := fun e => hne e.symm
  have c6 := h.crs
  have c12 := h.cpc
  have f12 := h.blk.frozen 12
  obtain ⟨pc, hpce⟩ : ∃ pc, σ.pc = pc := ⟨_, rfl⟩
  rw [hpce] at hpc c12
  have HP := Lib.hid hpce
  clear hpce
  have hBw : B ≤ w.heap.size := Nat.le_trans h.hS (Nat.le_of_lt hlt)
  have n1 : S ≠ w.heap.size := by omega
  have n2 : w.heap.size ≠ S := by omega
  obtain ⟨A, c, hvc⟩ : ∃ A c, vc = .slice A 0 c := by
    rcases h.cl.1.2 with ⟨hh, _⟩ | ⟨g', cap', cur, hv, _⟩
    · exact ⟨_, _, hh⟩
    · exact ⟨_, _, by rw [hv, hn]⟩
  subst hvc
  have c11 := h.ccl
  clear hn
  go_enter Try.func28, Try.ntmps28
  go_wp2_with fail
  go_ret
  exact ⟨rfl, (h.alloc _).ex, ((Below.refl _ _).alloc hBw _)⟩
end mst
end Go.Proofs.Ytpcihajmcejliaa
