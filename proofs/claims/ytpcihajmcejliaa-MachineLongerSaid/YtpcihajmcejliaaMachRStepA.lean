/- The walk of the reference's step, some of its orders. -/
import Derived.Test.YtpcihajmcejliaaMachRStep
namespace Go.Proofs.Ytpcihajmcejliaa
open Go.RowKit
open mst
namespace mst
set_option maxRecDepth 100000 in
set_option maxHeartbeats 4000000 in
theorem r1 {w : World} {B S : Nat} {own : Nat → Nat} {i0 i1 : List Int} {E st : Int} {σ : Mst} {f : Nat → Value} {vl vh vi0 vi1 vc : Value} {g0 g1 gr : Nat} (h : rm.Mem w B S own i0 i1 E st σ f vl vh vi0 vi1 vc g0 g1 gr) (hpc : 0 ≤ σ.pc ∧ σ.pc ≤ 30000) (a : Nat) (n : Int) (ha : a < 8) :
    Calls Try.prog 28 #[.pointer (some ⟨S, 0, none⟩), .agg #[.int .i64 1, .int .i64 a, .int .i64 0, .int .i64 0, .int .i64 n]] w (RStep B S i0 i1 E st σ w (goOn σ (upd σ a n))) := by
  have hlt := h.lt
  have hgl := h.ltr
  have hne := h.ne
  have hne2 : gr ≠ S := fun e => hne e.symm
  have c6 := h.crs
  have c12 := h.cpc
  have f12 := h.blk.frozen 12
  obtain ⟨pc, hpce⟩ : ∃ pc, σ.pc = pc := ⟨_, rfl⟩
  rw [hpce] at hpc c12
  have HP := Lib.hid hpce
  clear hpce
  have hBw : B ≤ w.heap.size := Nat.le_trans h.hS (Nat.le_of_lt hlt)
  have a' : (a : Int) < 8 := by omega
  have cr0 := h.cr a ha
  have fa := h.rg.frozen a
  go_enter Try.func28, Try.ntmps28
  go_wp2_with fail
  go_ret
  rw [← HP.out]
  exact ⟨rfl, (((h.setReg a n).setPc _).alloc _).ex, ((((Below.refl _ _).setCell h.hg _).setCell h.hS _).alloc (by simpa using hBw) _)⟩
set_option maxRecDepth 100000 in
set_option maxHeartbeats 4000000 in
theorem r2 {w : World} {B S : Nat} {own : Nat → Nat} {i0 i1 : List Int} {E st : Int} {σ : Mst} {f : Nat → Value} {vl vh vi0 vi1 vc : Value} {g0 g1 gr : Nat} (h : rm.Mem w B S own i0 i1 E st σ f vl vh vi0 vi1 vc g0 g1 gr) (hpc : 0 ≤ σ.pc ∧ σ.pc ≤ 30000) (a b : Nat) (ha : a < 8) (hb : b < 8) :
    Calls Try.prog 28 #[.pointer (some ⟨S, 0, none⟩), .agg #[.int .i64 2, .int .i64 a, .int .i64 b, .int .i64 0, .int .i64 0]] w (RStep B S i0 i1 E st σ w (goOn σ (upd σ a (σ.r b)))) := by
  have hlt := h.lt
  have hgl := h.ltr
  have hne := h.ne
  have hne2 : gr ≠ S := fun e => hne e.symm
  have c6 := h.crs
  have c12 := h.cpc
  have f12 := h.blk.frozen 12
  obtain ⟨pc, hpce⟩ : ∃ pc, σ.pc = pc := ⟨_, rfl⟩
  rw [hpce] at hpc c12
  have HP := Lib.hid hpce
  clear hpce
  have hBw : B ≤ w.heap.size := Nat.le_trans h.hS (Nat.le_of_lt hlt)
  have a' : (a : Int) < 8 := by omega
  have cr0 := h.cr a ha
  have b' : (b : Int) < 8 := by omega
  have cr1 := h.cr b hb
  have fa := h.rg.frozen a
  obtain ⟨rb, hrb⟩ : ∃ x, σ.r b = x := ⟨_, rfl⟩
  rw [hrb] at cr1 ⊢
  have HRb := Lib.hid hrb
  clear hrb
  go_enter Try.func28, Try.ntmps28
  go_wp2_with fail
  refine region_tail 9 mw.mixed (by kernel_rfl) ?_
  simp only [List.take_succ_cons, List.take_zero, List.drop_succ_cons, List.drop_zero]
  repeat still_step
  refine wpStill_nil ?_
  go_wp2_with fail
  go_ret
  rw [← HP.out]
  exact ⟨rfl, (((h.setReg a rb).setPc _).alloc _).drew.ex, ((((Below.refl _ _).setCell h.hg _).setCell h.hS _).alloc (by simpa using hBw) _).drew⟩
set_option maxRecDepth 100000 in
set_option maxHeartbeats 4000000 in
theorem r3 {w : World} {B S : Nat} {own : Nat → Nat} {i0 i1 : List Int} {E st : Int} {σ : Mst} {f : Nat → Value} {vl vh vi0 vi1 vc : Value} {g0 g1 gr : Nat} (h : rm.Mem w B S own i0 i1 E st σ f vl vh vi0 vi1 vc g0 g1 gr) (hpc : 0 ≤ σ.pc ∧ σ.pc ≤ 30000) (a b : Nat) (n at_ : Int) (ha : a < 8) (hb : b < 8) (hat : Hid (wrap64 (σ.r b + n) = at_)) :
    Calls Try.prog 28 #[.pointer (some ⟨S, 0, none⟩), .agg #[.int .i64 3, .int .i64 a, .int .i64 b, .int .i64 0, .int .i64 n]] w (RStep B S i0 i1 E st σ w (goOn σ (upd σ a at_))) := by
  have hlt := h.lt
  have hgl := h.ltr
  have hne := h.ne
  have hne2 : gr ≠ S := fun e => hne e.symm
  have c6 := h.crs
  have c12 := h.cpc
  have f12 := h.blk.frozen 12
  obtain ⟨pc, hpce⟩ : ∃ pc, σ.pc = pc := ⟨_, rfl⟩
  rw [hpce] at hpc c12
  have HP := Lib.hid hpce
  clear hpce
  have hBw : B ≤ w.heap.size := Nat.le_trans h.hS (Nat.le_of_lt hlt)
  have a' : (a : Int) < 8 := by omega
  have cr0 := h.cr a ha
  have b' : (b : Int) < 8 := by omega
  have cr1 := h.cr b hb
  have fa := h.rg.frozen a
  obtain ⟨rb, hrb⟩ : ∃ x, σ.r b = x := ⟨_, rfl⟩
  rw [hrb] at cr1 hat
  have HRb := Lib.hid hrb
  clear hrb
  have hwr := hat.out
  go_enter Try.func28, Try.ntmps28
  go_wp2_with fail
  refine region_tail 12 mw.mixed (by kernel_rfl) ?_
  simp only [List.take_succ_cons, List.take_zero, List.drop_succ_cons, List.drop_zero]
  repeat still_step
  refine wpStill_nil ?_
  go_wp2_with fail
  go_ret
  rw [← HP.out]
  exact ⟨rfl, (((h.setReg a at_).setPc _).alloc _).drew.ex, ((((Below.refl _ _).setCell h.hg _).setCell h.hS _).alloc (by simpa using hBw) _).drew⟩
set_option maxRecDepth 100000 in
set_option maxHeartbeats 4000000 in
theorem r8 {w : World} {B S : Nat} {own : Nat → Nat} {i0 i1 : List Int} {E st : Int} {σ : Mst} {f : Nat → Value} {vl vh vi0 vi1 vc : Value} {g0 g1 gr : Nat} (h : rm.Mem w B S own i0 i1 E st σ f vl vh vi0 vi1 vc g0 g1 gr) (hpc : 0 ≤ σ.pc ∧ σ.pc ≤ 30000) (n : Int) :
    Calls Try.prog 28 #[.pointer (some ⟨S, 0, none⟩), .agg #[.int .i64 8, .int .i64 0, .int .i64 0, .int .i64 0, .int .i64 n]] w (RStep B S i0 i1 E st σ w (.ok { σ with pc := n })) := by
  have hlt := h.lt
  have hgl := h.ltr
  have hne := h.ne
  have hne2 : gr ≠ S := fun e => hne e.symm
  have c6 := h.crs
  have c12 := h.cpc
  have f12 := h.blk.frozen 12
  obtain ⟨pc, hpce⟩ : ∃ pc, σ.pc = pc := ⟨_, rfl⟩
  rw [hpce] at hpc c12
  have HP := Lib.hid hpce
  clear hpce
  have hBw : B ≤ w.heap.size := Nat.le_trans h.hS (Nat.le_of_lt hlt)
  go_enter Try.func28, Try.ntmps28
  go_wp2_with fail
  go_ret
  exact ⟨rfl, ((h.setPc n).alloc _).ex, ((Below.refl _ _).setCell h.hS _).alloc (by simpa using hBw) _⟩
set_option maxRecDepth 100000 in
set_option maxHeartbeats 4000000 in
theorem r9 {w : World} {B S : Nat} {own : Nat → Nat} {i0 i1 : List Int} {E st : Int} {σ : Mst} {f : Nat → Value} {vl vh vi0 vi1 vc : Value} {g0 g1 gr : Nat} (h : rm.Mem w B S own i0 i1 E st σ f vl vh vi0 vi1 vc g0 g1 gr) (hpc : 0 ≤ σ.pc ∧ σ.pc ≤ 30000) (a : Nat) (n : Int) (ha : a < 8) (h0 : σ.r a = 0) :
    Calls Try.prog 28 #[.pointer (some ⟨S, 0, none⟩), .agg #[.int .i64 9, .int .i64 a, .int .i64 0, .int .i64 0, .int .i64 n]] w (RStep B S i0 i1 E st σ w (.ok { σ with pc := n })) := by
  have hlt := h.lt
  have hgl := h.ltr
  have hne := h.ne
  have hne2 : gr ≠ S := fun e => hne e.symm
  have c6 := h.crs
  have c12 := h.cpc
  have f12 := h.blk.frozen 12
  obtain ⟨pc, hpce⟩ : ∃ pc, σ.pc = pc := ⟨_, rfl⟩
  rw [hpce] at hpc c12
  have HP := Lib.hid hpce
  clear hpce
  have hBw : B ≤ w.heap.size := Nat.le_trans h.hS (Nat.le_of_lt hlt)
  have a' : (a : Int) < 8 := by omega
  have cr0 := h.cr a ha
  obtain ⟨ra, hra⟩ : ∃ x, σ.r a = x := ⟨_, rfl⟩
  rw [hra] at cr0 h0
  have HRa := Lib.hid hra
  clear hra
  go_enter Try.func28, Try.ntmps28
  go_wp2_with fail
  go_ret
  exact ⟨rfl, ((h.setPc _).alloc _).ex, ((Below.refl _ _).setCell h.hS _).alloc (by simpa using hBw) _⟩
set_option maxRecDepth 100000 in
set_option maxHeartbeats 4000000 in
theorem r9x {w : World} {B S : Nat} {own : Nat → Nat} {i0 i1 : List Int} {E st : Int} {σ : Mst} {f : Nat → Value} {vl vh vi0 vi1 vc : Value} {g0 g1 gr : Nat} (h : rm.Mem w B S own i0 i1 E st σ f vl vh vi0 vi1 vc g0 g1 gr) (hpc : 0 ≤ σ.pc ∧ σ.pc ≤ 30000) (a : Nat) (n : Int) (ha : a < 8) (h0 : σ.r a ≠ 0) :
    Calls Try.prog 28 #[.pointer (some ⟨S, 0, none⟩), .agg #[.int .i64 9, .int .i64 a, .int .i64 0, .int .i64 0, .int .i64 n]] w (RStep B S i0 i1 E st σ w (.ok { σ with pc := σ.pc + 1 })) := by
  have hlt := h.lt
  have hgl := h.ltr
  have hne := h.ne
  have hne2 : gr ≠ S := fun e => hne e.symm
  have c6 := h.crs
  have c12 := h.cpc
  have f12 := h.blk.frozen 12
  obtain ⟨pc, hpce⟩ : ∃ pc, σ.pc = pc := ⟨_, rfl⟩
  rw [hpce] at hpc c12
  have HP := Lib.hid hpce
  clear hpce
  have hBw : B ≤ w.heap.size := Nat.le_trans h.hS (Nat.le_of_lt hlt)
  have a' : (a : Int) < 8 := by omega
  have cr0 := h.cr a ha
  obtain ⟨ra, hra⟩ : ∃ x, σ.r a = x := ⟨_, rfl⟩
  rw [hra] at cr0 h0
  have HRa := Lib.hid hra
  clear hra
  go_enter Try.func28, Try.ntmps28
  go_wp2_with fail
  go_ret
  rw [← HP.out]
  exact ⟨rfl, ((h.setPc _).alloc _).ex, ((Below.refl _ _).setCell h.hS _).alloc (by simpa using hBw) _⟩
set_option maxRecDepth 100000 in
set_option maxHeartbeats 4000000 in
theorem r17 {w : World} {B S : Nat} {own : Nat → Nat} {i0 i1 : List Int} {E st : Int} {σ : Mst} {f : Nat → Value} {vl vh vi0 vi1 vc : Value} {g0 g1 gr : Nat} (h : rm.Mem w B S own i0 i1 E st σ f vl vh vi0 vi1 vc g0 g1 gr) (hpc : 0 ≤ σ.pc ∧ σ.pc ≤ 30000) :
    Calls Try.prog 28 #[.pointer (some ⟨S, 0, none⟩), .agg #[.int .i64 17, .int .i64 0, .int .i64 0, .int .i64 0, .int .i64 0]] w (RStep B S i0 i1 E st σ w (.error 1)) := by
  have hlt := h.lt
  have hgl := h.ltr
  have hne := h.ne
  have hne2 : gr ≠ S := fun e => hne e.symm
  have c6 := h.crs
  have c12 := h.cpc
  have f12 := h.blk.frozen 12
  obtain ⟨pc, hpce⟩ : ∃ pc, σ.pc = pc := ⟨_, rfl⟩
  rw [hpce] at hpc c12
  have HP := Lib.hid hpce
  clear hpce
  have hBw : B ≤ w.heap.size := Nat.le_trans h.hS (Nat.le_of_lt hlt)
  go_enter Try.func28, Try.ntmps28
  go_wp2_with fail
  go_ret
  exact ⟨rfl, (h.alloc _).ex, (Below.refl _ _).alloc hBw _⟩
end mst
end Go.Proofs.Ytpcihajmcejliaa
