/- The walk of the reference's step, some of its orders. The walk of the reference's step, some of its orders. The walk of the reference's step, some of its orders. -/
import Derived.Test.YtpcihajmcejliaaMachRStep
namespace Go.Proofs.Ytpcihajmcejliaa
open Go.RowKit
open mst
namespace mst
set_option maxRecDepth 100000 in
set_option maxHeartbeats 4000000 in
theorem r6 {w : World} {B S : Nat} {own : Nat → Nat} {i0 i1 : List Int} {E st : Int} {σ : Mst} {f : Nat → Value} {vl vh vi0 vi1 vc : Value} {g0 g1 gr : Nat} (h : rm.Mem w B S own i0 i1 E st σ f vl vh vi0 vi1 vc g0 g1 gr) (hpc : 0 ≤ σ.pc ∧ σ.pc ≤ 30000) (a b : Nat) (n at_ : Int) (ha : a < 8) (hb : b < 8) (hat : Hid (wrap64 (σ.r b + n) = at_)) (h0 : 0 ≤ at_) (h1 : at_ < σ.lo.length) :
    Calls Try.prog 28 #[.pointer (some ⟨S, 0, none⟩), .agg #[.int .i64 6, .int .i64 a, .int .i64 b, .int .i64 0, .int .i64 n]] w (RStep B S i0 i1 E st σ w (goOn σ { σ with lo := σ.lo.set at_.toNat (σ.r a) })) := by
  have hlt := h.lt
  have hgl := h.ltr
  have hne := h.ne
  have hne2 : gr ≠ S := fun e => hne e.symm
  have c6 := h.crs
  have c12 := h.cpc
  have f12 := h.blk.frozen 12
  obtain ⟨pc, hpce⟩ : ∃ pc, σ.pc = pc := ⟨_, rfl⟩
  rw [hpce] at hpc c12
  have HP := Lib.hid hpce
  clear hpce
  have hBw : B ≤ w.heap.size := Nat.le_trans h.hS (Nat.le_of_lt hlt)
  have a' : (a : Int) < 8 := by omega
  have cr0 := h.cr a ha
  have b' : (b : Int) < 8 := by omega
  have cr1 := h.cr b hb
  obtain ⟨ra, hra⟩ : ∃ x, σ.r a = x := ⟨_, rfl⟩
  rw [hra] at cr0 ⊢
  have HRa := Lib.hid hra
  clear hra
  obtain ⟨rb, hrb⟩ : ∃ x, σ.r b = x := ⟨_, rfl⟩
  rw [hrb] at cr1 hat
  have HRb := Lib.hid hrb
  clear hrb
  have hwr : IntKind.i64.wrap (rb + n) = at_ := by rw [IntWalk.i64_left]; exact hat.out
  have cw := h.cw0
  have cx := h.lo.cell (k := at_.toNat) (by omega)
  have fx := h.lo.1.frozen at_.toNat
  have hg0 := h.lo.1.lt
  have hgS : g0 ≠ S := fun e => by have := h.lo.2.1; rw [e, h.oS] at this; cases this
  have hSg : S ≠ g0 := fun e => hgS e.symm
  have n3 : g0 ≠ w.heap.size := by omega
  have hgB := h.lo.2.2
  obtain ⟨len, hlen⟩ : ∃ x, σ.lo.length = x := ⟨_, rfl⟩
  rw [hlen] at h1 cw
  clear hlen
  go_enter Try.func28, Try.ntmps28
  go_wp2_with fail
  refine region_tail 17 mw.mixed (by kernel_rfl) ?_
  simp only [List.take_succ_cons, List.take_zero, List.drop_succ_cons, List.drop_zero]
  repeat still_step
  refine wpStill_nil ?_
  clear hwr
  go_wp2_with fail
  refine (mw.put_ok g0 len len at_ ra _ _ h0 h1 (cell_ad cx) (frozen_ad hg0 fx)).mono ?_
  rintro e w' ⟨rfl, rfl⟩
  go_wp2_with fail
  go_ret
  rw [← HP.out]
  exact ⟨rfl, (((h.setLo at_.toNat ra).setPc _).alloc _).drew.ex, ((((Below.refl _ _).setCell hgB _).setCell h.hS _).alloc (by simpa using hBw) _).drew⟩
set_option maxRecDepth 100000 in
set_option maxHeartbeats 4000000 in
theorem r6x {w : World} {B S : Nat} {own : Nat → Nat} {i0 i1 : List Int} {E st : Int} {σ : Mst} {f : Nat → Value} {vl vh vi0 vi1 vc : Value} {g0 g1 gr : Nat} (h : rm.Mem w B S own i0 i1 E st σ f vl vh vi0 vi1 vc g0 g1 gr) (hpc : 0 ≤ σ.pc ∧ σ.pc ≤ 30000) (a b : Nat) (n at_ : Int) (ha : a < 8) (hb : b < 8) (hat : Hid (wrap64 (σ.r b + n) = at_)) (h0 : at_ < 0 ∨ σ.lo.length ≤ at_) :
    Calls Try.prog 28 #[.pointer (some ⟨S, 0, none⟩), .agg #[.int .i64 6, .int .i64 a, .int .i64 b, .int .i64 0, .int .i64 n]] w (RStep B S i0 i1 E st σ w (.error 6)) := by
  have hlt := h.lt
  have hgl := h.ltr
  have hne := h.ne
  have hne2 : gr ≠ S := fun e => hne e.symm
  have c6 := h.crs
  have c12 := h.cpc
  have f12 := h.blk.frozen 12
  obtain ⟨pc, hpce⟩ : ∃ pc, σ.pc = pc := ⟨_, rfl⟩
  rw [hpce] at hpc c12
  have HP := Lib.hid hpce
  clear hpce
  have hBw : B ≤ w.heap.size := Nat.le_trans h.hS (Nat.le_of_lt hlt)
  have a' : (a : Int) < 8 := by omega
  have cr0 := h.cr a ha
  have b' : (b : Int) < 8 := by omega
  have cr1 := h.cr b hb
  obtain ⟨ra, hra⟩ : ∃ x, σ.r a = x := ⟨_, rfl⟩
  rw [hra] at cr0
  have HRa := Lib.hid hra
  clear hra
  obtain ⟨rb, hrb⟩ : ∃ x, σ.r b = x := ⟨_, rfl⟩
  rw [hrb] at cr1 hat
  have HRb := Lib.hid hrb
  clear hrb
  have hwr : IntKind.i64.wrap (rb + n) = at_ := by rw [IntWalk.i64_left]; exact hat.out
  have cw := h.cw0
  obtain ⟨len, hlen⟩ : ∃ x, σ.lo.length = x := ⟨_, rfl⟩
  rw [hlen] at h0 cw
  have H0 := Lib.hid h0
  clear hlen h0
  go_enter Try.func28, Try.ntmps28
  go_wp2_with fail
  refine region_tail 17 mw.mixed (by kernel_rfl) ?_
  simp only [List.take_succ_cons, List.take_zero, List.drop_succ_cons, List.drop_zero]
  repeat still_step
  refine wpStill_nil ?_
  clear hwr
  go_wp2_with fail
  refine (mw.put_bad _ len len at_ ra _ H0.out).mono ?_
  rintro e w' ⟨rfl, rfl⟩
  go_wp2_with fail
  go_ret
  exact ⟨rfl, (h.alloc _).drew.ex, ((Below.refl _ _).alloc hBw _).drew⟩
end mst
end Go.Proofs.Ytpcihajmcejliaa
namespace Go.Proofs.Ytpcihajmcejliaa
open Go.RowKit
open mst
namespace mst
set_option maxRecDepth 100000 in
set_option maxHeartbeats 4000000 in
theorem r7 {w : World} {B S : Nat} {own : Nat → Nat} {i0 i1 : List Int} {E st : Int} {σ : Mst} {f : Nat → Value} {vl vh vi0 vi1 vc : Value} {g0 g1 gr : Nat} (h : rm.Mem w B S own i0 i1 E st σ f vl vh vi0 vi1 vc g0 g1 gr) (hpc : 0 ≤ σ.pc ∧ σ.pc ≤ 30000) (a b : Nat) (n at_ : Int) (ha : a < 8) (hb : b < 8) (hat : Hid (wrap64 (σ.r b + n) = at_)) (h0 : 0 ≤ at_) (h1 : at_ < σ.hi.length) :
    Calls Try.prog 28 #[.pointer (some ⟨S, 0, none⟩), .agg #[.int .i64 7, .int .i64 a, .int .i64 b, .int .i64 0, .int .i64 n]] w (RStep B S i0 i1 E st σ w (goOn σ { σ with hi := σ.hi.set at_.toNat (σ.r a) })) := by
  have hlt := h.lt
  have hgl := h.ltr
  have hne := h.ne
  have hne2 : gr ≠ S := fun e => hne e.symm
  have c6 := h.crs
  have c12 := h.cpc
  have f12 := h.blk.frozen 12
  obtain ⟨pc, hpce⟩ : ∃ pc, σ.pc = pc := ⟨_, rfl⟩
  rw [hpce] at hpc c12
  have HP := Lib.hid hpce
  clear hpce
  have hBw : B ≤ w.heap.size := Nat.le_trans h.hS (Nat.le_of_lt hlt)
  have a' : (a : Int) < 8 := by omega
  have cr0 := h.cr a ha
  have b' : (b : Int) < 8 := by omega
  have cr1 := h.cr b hb
  obtain ⟨ra, hra⟩ : ∃ x, σ.r a = x := ⟨_, rfl⟩
  rw [hra] at cr0 ⊢
  have HRa := Lib.hid hra
  clear hra
  obtain ⟨rb, hrb⟩ : ∃ x, σ.r b = x := ⟨_, rfl⟩
  rw [hrb] at cr1 hat
  have HRb := Lib.hid hrb
  clear hrb
  have hwr : IntKind.i64.wrap (rb + n) = at_ := by rw [IntWalk.i64_left]; exact hat.out
  have cw := h.cw1
  have cx := h.hi.cell (k := at_.toNat) (by omega)
  have fx := h.hi.1.frozen at_.toNat
  have hg0 := h.hi.1.lt
  have hgS : g1 ≠ S := fun e => by have := h.hi.2.1; rw [e, h.oS] at this; cases this
  have hSg : S ≠ g1 := fun e => hgS e.symm
  have n3 : g1 ≠ w.heap.size := by omega
  have hgB := h.hi.2.2
  obtain ⟨len, hlen⟩ : ∃ x, σ.hi.length = x := ⟨_, rfl⟩
  rw [hlen] at h1 cw
  clear hlen
  go_enter Try.func28, Try.ntmps28
  go_wp2_with fail
  refine region_tail 17 mw.mixed (by kernel_rfl) ?_
  simp only [List.take_succ_cons, List.take_zero, List.drop_succ_cons, List.drop_zero]
  repeat still_step
  refine wpStill_nil ?_
  clear hwr
  go_wp2_with fail
  refine (mw.put_ok g1 len len at_ ra _ _ h0 h1 (cell_ad cx) (frozen_ad hg0 fx)).mono ?_
  rintro e w' ⟨rfl, rfl⟩
  go_wp2_with fail
  go_ret
  rw [← HP.out]
  exact ⟨rfl, (((h.setHi at_.toNat ra).setPc _).alloc _).drew.ex, ((((Below.refl _ _).setCell hgB _).setCell h.hS _).alloc (by simpa using hBw) _).drew⟩
set_option maxRecDepth 100000 in
set_option maxHeartbeats 4000000 in
theorem r7x {w : World} {B S : Nat} {own : Nat → Nat} {i0 i1 : List Int} {E st : Int} {σ : Mst} {f : Nat → Value} {vl vh vi0 vi1 vc : Value} {g0 g1 gr : Nat} (h : rm.Mem w B S own i0 i1 E st σ f vl vh vi0 vi1 vc g0 g1 gr) (hpc : 0 ≤ σ.pc ∧ σ.pc ≤ 30000) (a b : Nat) (n at_ : Int) (ha : a < 8) (hb : b < 8) (hat : Hid (wrap64 (σ.r b + n) = at_)) (h0 : at_ < 0 ∨ σ.hi.length ≤ at_) :
    Calls Try.prog 28 #[.pointer (some ⟨S, 0, none⟩), .agg #[.int .i64 7, .int .i64 a, .int .i64 b, .int .i64 0, .int .i64 n]] w (RStep B S i0 i1 E st σ w (.error 6)) := by
  have hlt := h.lt
  have hgl := h.ltr
  have hne := h.ne
  have hne2 : gr ≠ S := fun e => hne e.symm
  have c6 := h.crs
  have c12 := h.cpc
  have f12 := h.blk.frozen 12
  obtain ⟨pc, hpce⟩ : ∃ pc, σ.pc = pc := ⟨_, rfl⟩
  rw [hpce] at hpc c12
  have HP := Lib.hid hpce
  clear hpce
  have hBw : B ≤ w.heap.size := Nat.le_trans h.hS (Nat.le_of_lt hlt)
  have a' : (a : Int) < 8 := by omega
  have cr0 := h.cr a ha
  have b' : (b : Int) < 8 := by omega
  have cr1 := h.cr b hb
  obtain ⟨ra, hra⟩ : ∃ x, σ.r a = x := ⟨_, rfl⟩
  rw [hra] at cr0
  have HRa := Lib.hid hra
  clear hra
  obtain ⟨rb, hrb⟩ : ∃ x, σ.r b = x := ⟨_, rfl⟩
  rw [hrb] at cr1 hat
  have HRb := Lib.hid hrb
  clear hrb
  have hwr : IntKind.i64.wrap (rb + n) = at_ := by rw [IntWalk.i64_left]; exact hat.out
  have cw := h.cw1
  obtain ⟨len, hlen⟩ : ∃ x, σ.hi.length = x := ⟨_, rfl⟩
  rw [hlen] at h0 cw
  have H0 := Lib.hid h0
  clear hlen h0
  go_enter Try.func28, Try.ntmps28
  go_wp2_with fail
  refine region_tail 17 mw.mixed (by kernel_rfl) ?_
  simp only [List.take_succ_cons, List.take_zero, List.drop_succ_cons, List.drop_zero]
  repeat still_step
  refine wpStill_nil ?_
  clear hwr
  go_wp2_with fail
  refine (mw.put_bad _ len len at_ ra _ H0.out).mono ?_
  rintro e w' ⟨rfl, rfl⟩
  go_wp2_with fail
  go_ret
  exact ⟨rfl, (h.alloc _).drew.ex, ((Below.refl _ _).alloc hBw _).drew⟩
end mst
end Go.Proofs.Ytpcihajmcejliaa
namespace Go.Proofs.Ytpcihajmcejliaa
open Go.RowKit
open mst
namespace mst
set_option maxRecDepth 100000 in
set_option maxHeartbeats 4000000 in
theorem r10 {w : World} {B S : Nat} {own : Nat → Nat} {i0 i1 : List Int} {E st : Int} {σ : Mst} {f : Nat → Value} {vl vh vi0 vi1 vc : Value} {g0 g1 gr : Nat} (h : rm.Mem w B S own i0 i1 E st σ f vl vh vi0 vi1 vc g0 g1 gr) (hpc : 0 ≤ σ.pc ∧ σ.pc ≤ 30000) (a : Nat) (n : Int) (ha : a < 8) (h0 : 0 ≤ σ.r a) (h1 : σ.r a < n) :
    Calls Try.prog 28 #[.pointer (some ⟨S, 0, none⟩), .agg #[.int .i64 10, .int .i64 a, .int .i64 0, .int .i64 0, .int .i64 n]] w (RStep B S i0 i1 E st σ w (goOn σ σ)) := by
  have hlt := h.lt
  have hgl := h.ltr
  have hne := h.ne
  have hne2 : gr ≠ S := fun e => hne e.symm
  have c6 := h.crs
  have c12 := h.cpc
  have f12 := h.blk.frozen 12
  obtain ⟨pc, hpce⟩ : ∃ pc, σ.pc = pc := ⟨_, rfl⟩
  rw [hpce] at hpc c12
  have HP := Lib.hid hpce
  clear hpce
  have hBw : B ≤ w.heap.size := Nat.le_trans h.hS (Nat.le_of_lt hlt)
  have a' : (a : Int) < 8 := by omega
  have cr0 := h.cr a ha
  obtain ⟨ra, hra⟩ : ∃ x, σ.r a = x := ⟨_, rfl⟩
  rw [hra] at cr0 h0 h1
  have HRa := Lib.hid hra
  clear hra
  have hd0 : decide (ra < 0) = false := by simp; omega
  have hd1 : decide (n ≤ ra) = false := by simp; omega
  go_enter Try.func28, Try.ntmps28
  go_wp2_with fail
  go_quiet (fail)
  go_wp2_with fail
  go_ret
  rw [← HP.out]
  exact ⟨rfl, (((h.alloc _).drewN _).setPc _).ex, (below_drewN ((Below.refl _ _).alloc hBw _) _).setCell h.hS _⟩
set_option maxRecDepth 100000 in
set_option maxHeartbeats 4000000 in
theorem r10x {w : World} {B S : Nat} {own : Nat → Nat} {i0 i1 : List Int} {E st : Int} {σ : Mst} {f : Nat → Value} {vl vh vi0 vi1 vc : Value} {g0 g1 gr : Nat} (h : rm.Mem w B S own i0 i1 E st σ f vl vh vi0 vi1 vc g0 g1 gr) (hpc : 0 ≤ σ.pc ∧ σ.pc ≤ 30000) (a : Nat) (n : Int) (ha : a < 8) (h0 : σ.r a < 0) :
    Calls Try.prog 28 #[.pointer (some ⟨S, 0, none⟩), .agg #[.int .i64 10, .int .i64 a, .int .i64 0, .int .i64 0, .int .i64 n]] w (RStep B S i0 i1 E st σ w (.error 3)) := by
  have hlt := h.lt
  have hgl := h.ltr
  have hne := h.ne
  have hne2 : gr ≠ S := fun e => hne e.symm
  have c6 := h.crs
  have c12 := h.cpc
  have f12 := h.blk.frozen 12
  obtain ⟨pc, hpce⟩ : ∃ pc, σ.pc = pc := ⟨_, rfl⟩
  rw [hpce] at hpc c12
  have HP := Lib.hid hpce
  clear hpce
  have hBw : B ≤ w.heap.size := Nat.le_trans h.hS (Nat.le_of_lt hlt)
  have a' : (a : Int) < 8 := by omega
  have cr0 := h.cr a ha
  obtain ⟨ra, hra⟩ : ∃ x, σ.r a = x := ⟨_, rfl⟩
  rw [hra] at cr0 h0
  have HRa := Lib.hid hra
  clear hra
  have hd0 : decide (ra < 0) = true := by simp; omega
  go_enter Try.func28, Try.ntmps28
  go_wp2_with fail
  go_quiet (fail)
  go_wp2_with fail
  go_ret
  exact ⟨rfl, ((h.alloc _).drewN _).ex, below_drewN ((Below.refl _ _).alloc hBw _) _⟩
set_option maxRecDepth 100000 in
set_option maxHeartbeats 4000000 in
theorem r10y {w : World} {B S : Nat} {own : Nat → Nat} {i0 i1 : List Int} {E st : Int} {σ : Mst} {f : Nat → Value} {vl vh vi0 vi1 vc : Value} {g0 g1 gr : Nat} (h : rm.Mem w B S own i0 i1 E st σ f vl vh vi0 vi1 vc g0 g1 gr) (hpc : 0 ≤ σ.pc ∧ σ.pc ≤ 30000) (a : Nat) (n : Int) (ha : a < 8) (h0 : 0 ≤ σ.r a) (h1 : n ≤ σ.r a) :
    Calls Try.prog 28 #[.pointer (some ⟨S, 0, none⟩), .agg #[.int .i64 10, .int .i64 a, .int .i64 0, .int .i64 0, .int .i64 n]] w (RStep B S i0 i1 E st σ w (.error 3)) := by
  have hlt := h.lt
  have hgl := h.ltr
  have hne := h.ne
  have hne2 : gr ≠ S := fun e => hne e.symm
  have c6 := h.crs
  have c12 := h.cpc
  have f12 := h.blk.frozen 12
  obtain ⟨pc, hpce⟩ : ∃ pc, σ.pc = pc := ⟨_, rfl⟩
  rw [hpce] at hpc c12
  have HP := Lib.hid hpce
  clear hpce
  have hBw : B ≤ w.heap.size := Nat.le_trans h.hS (Nat.le_of_lt hlt)
  have a' : (a : Int) < 8 := by omega
  have cr0 := h.cr a ha
  obtain ⟨ra, hra⟩ : ∃ x, σ.r a = x := ⟨_, rfl⟩
  rw [hra] at cr0 h0 h1
  have HRa := Lib.hid hra
  clear hra
  have hd0 : decide (ra < 0) = false := by simp; omega
  have hd1 : decide (n ≤ ra) = true := by simp; omega
  go_enter Try.func28, Try.ntmps28
  go_wp2_with fail
  go_quiet (fail)
  go_wp2_with fail
  go_ret
  exact ⟨rfl, ((h.alloc _).drewN _).ex, below_drewN ((Below.refl _ _).alloc hBw _) _⟩
end mst
end Go.Proofs.Ytpcihajmcejliaa
