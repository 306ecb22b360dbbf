/- The walk of the machine's step, some of its orders. -/
import Derived.Test.YtpcihajmcejliaaMachStep
import Derived.Deep.QuietTactic
import Derived.BigQuiet
namespace Go.Proofs.Ytpcihajmcejliaa
open Go.RowKit
open mst
namespace mst
set_option maxRecDepth 100000 in
set_option maxHeartbeats 4000000 in
theorem p24 {w : World} {B S : Nat} {own : Nat → Nat} {cv : Value} {i0 i1 : List Int} {E st : Int} {σ : Mst} {f : Nat → Value} {vl vh vi0 vi1 vc : Value} {g0 g1 : Nat} (h : pm.Mem w B S own cv i0 i1 E st σ f vl vh vi0 vi1 vc g0 g1) (hpc : 0 ≤ σ.pc ∧ σ.pc ≤ 30000) (a b c : Nat) (q : Int) (ha : a < 8) (hb : b < 8) (hc : c < 8) (hq : opF (4) (σ.r b) (σ.r c) = (q, true)) :
    Calls Try.prog 35 #[.pointer (some ⟨S, 0, none⟩), .agg #[.int .i64 24, .int .i64 a, .int .i64 b, .int .i64 c, .int .i64 0]] w (PStep B S cv i0 i1 E st σ w (goOn σ (upd σ a q))) := by
  have hlt := h.lt
  have c20 := h.cpc
  have f20 := h.blk.frozen 20
  obtain ⟨pc, hpce⟩ : ∃ pc, σ.pc = pc := ⟨_, rfl⟩
  rw [hpce] at hpc c20
  have HP := Lib.hid hpce
  clear hpce
  have hBw : B ≤ w.heap.size := Nat.le_trans h.hS (Nat.le_of_lt hlt)
  have n1 : S ≠ w.heap.size := by omega
  have n2 : w.heap.size ≠ S := by omega
  have a' : (a : Int) < 8 := by omega
  have cr0 := h.cr a ha
  have b' : (b : Int) < 8 := by omega
  have cr1 := h.cr b hb
  have c' : (c : Int) < 8 := by omega
  have cr2 := h.cr c hc
  have fa := h.blk.frozen (7 + a)
  obtain ⟨rb, hrb⟩ : ∃ x, σ.r b = x := ⟨_, rfl⟩
  rw [hrb] at cr1 hq
  have HRb := Lib.hid hrb
  clear hrb
  obtain ⟨rc, hrc⟩ : ∃ x, σ.r c = x := ⟨_, rfl⟩
  rw [hrc] at cr2 hq
  have HRc := Lib.hid hrc
  clear hrc
  go_enter Try.func35, Try.ntmps35
  go_wp2_with fail
  go_quiet ((go_at_call 9; rw [show IntKind.i64.wrap 4 = 4 from by decide]; exact Calls.quiet_of_same ((op_is (4) rb rc q true hq _).mono fun _ _ h => ⟨h.1, h.2.symm⟩)))
  go_wp2_with fail
  refine (mw.must_true _ _).mono ?_
  rintro e w' ⟨rfl, rfl⟩
  go_wp2_with fail
  refine region_tail 6 mw.mixed (by kernel_rfl) ?_
  simp only [List.take_succ_cons, List.take_zero, List.drop_succ_cons, List.drop_zero]
  repeat still_step
  refine wpStill_nil ?_
  go_wp2_with fail
  go_end0
  rw [← HP.out]
  exact ⟨rfl, ((((h.alloc _).drewN _).drew.setReg a ha q).setPc _).ex, (((below_drewN ((Below.refl _ _).alloc hBw _) _).drew).setCell h.hS _).setCell h.hS _⟩
set_option maxRecDepth 100000 in
set_option maxHeartbeats 4000000 in
theorem p24x {w : World} {B S : Nat} {own : Nat → Nat} {cv : Value} {i0 i1 : List Int} {E st : Int} {σ : Mst} {f : Nat → Value} {vl vh vi0 vi1 vc : Value} {g0 g1 : Nat} (h : pm.Mem w B S own cv i0 i1 E st σ f vl vh vi0 vi1 vc g0 g1) (hpc : 0 ≤ σ.pc ∧ σ.pc ≤ 30000) (a b c : Nat) (q : Int) (ha : a < 8) (hb : b < 8) (hc : c < 8) (hq : opF (4) (σ.r b) (σ.r c) = (q, false)) :
    Calls Try.prog 35 #[.pointer (some ⟨S, 0, none⟩), .agg #[.int .i64 24, .int .i64 a, .int .i64 b, .int .i64 c, .int .i64 0]] w (PStep B S cv i0 i1 E st σ w (.error 2)) := by
  have hlt := h.lt
  have c20 := h.cpc
  have f20 := h.blk.frozen 20
  obtain ⟨pc, hpce⟩ : ∃ pc, σ.pc = pc := ⟨_, rfl⟩
  rw [hpce] at hpc c20
  have HP := Lib.hid hpce
  clear hpce
  have hBw : B ≤ w.heap.size := Nat.le_trans h.hS (Nat.le_of_lt hlt)
  have n1 : S ≠ w.heap.size := by omega
  have n2 : w.heap.size ≠ S := by omega
  have a' : (a : Int) < 8 := by omega
  have cr0 := h.cr a ha
  have b' : (b : Int) < 8 := by omega
  have cr1 := h.cr b hb
  have c' : (c : Int) < 8 := by omega
  have cr2 := h.cr c hc
  have fa := h.blk.frozen (7 + a)
  obtain ⟨rb, hrb⟩ : ∃ x, σ.r b = x := ⟨_, rfl⟩
  rw [hrb] at cr1 hq
  have HRb := Lib.hid hrb
  clear hrb
  obtain ⟨rc, hrc⟩ : ∃ x, σ.r c = x := ⟨_, rfl⟩
  rw [hrc] at cr2 hq
  have HRc := Lib.hid hrc
  clear hrc
  go_enter Try.func35, Try.ntmps35
  go_wp2_with fail
  go_quiet ((go_at_call 9; rw [show IntKind.i64.wrap 4 = 4 from by decide]; exact Calls.quiet_of_same ((op_is (4) rb rc q false hq _).mono fun _ _ h => ⟨h.1, h.2.symm⟩)))
  go_wp2_with fail
  refine (mw.must_false _ _).mono ?_
  rintro e w' ⟨rfl, rfl⟩
  go_wp2_with fail
  exact ⟨rfl, rfl, ((h.alloc _).drewN _).ex, below_drewN ((Below.refl _ _).alloc hBw _) _⟩
set_option maxRecDepth 100000 in
set_option maxHeartbeats 4000000 in
theorem p25 {w : World} {B S : Nat} {own : Nat → Nat} {cv : Value} {i0 i1 : List Int} {E st : Int} {σ : Mst} {f : Nat → Value} {vl vh vi0 vi1 vc : Value} {g0 g1 : Nat} (h : pm.Mem w B S own cv i0 i1 E st σ f vl vh vi0 vi1 vc g0 g1) (hpc : 0 ≤ σ.pc ∧ σ.pc ≤ 30000) (a b c : Nat) (q : Int) (ha : a < 8) (hb : b < 8) (hc : c < 8) (hq : opF (5) (σ.r b) (σ.r c) = (q, true)) :
    Calls Try.prog 35 #[.pointer (some ⟨S, 0, none⟩), .agg #[.int .i64 25, .int .i64 a, .int .i64 b, .int .i64 c, .int .i64 0]] w (PStep B S cv i0 i1 E st σ w (goOn σ (upd σ a q))) := by
  have hlt := h.lt
  have c20 := h.cpc
  have f20 := h.blk.frozen 20
  obtain ⟨pc, hpce⟩ : ∃ pc, σ.pc = pc := ⟨_, rfl⟩
  rw [hpce] at hpc c20
  have HP := Lib.hid hpce
  clear hpce
  have hBw : B ≤ w.heap.size := Nat.le_trans h.hS (Nat.le_of_lt hlt)
  have n1 : S ≠ w.heap.size := by omega
  have n2 : w.heap.size ≠ S := by omega
  have a' : (a : Int) < 8 := by omega
  have cr0 := h.cr a ha
  have b' : (b : Int) < 8 := by omega
  have cr1 := h.cr b hb
  have c' : (c : Int) < 8 := by omega
  have cr2 := h.cr c hc
  have fa := h.blk.frozen (7 + a)
  obtain ⟨rb, hrb⟩ : ∃ x, σ.r b = x := ⟨_, rfl⟩
  rw [hrb] at cr1 hq
  have HRb := Lib.hid hrb
  clear hrb
  obtain ⟨rc, hrc⟩ : ∃ x, σ.r c = x := ⟨_, rfl⟩
  rw [hrc] at cr2 hq
  have HRc := Lib.hid hrc
  clear hrc
  go_enter Try.func35, Try.ntmps35
  go_wp2_with fail
  go_quiet ((go_at_call 9; rw [show IntKind.i64.wrap 5 = 5 from by decide]; exact Calls.quiet_of_same ((op_is (5) rb rc q true hq _).mono fun _ _ h => ⟨h.1, h.2.symm⟩)))
  go_wp2_with fail
  refine (mw.must_true _ _).mono ?_
  rintro e w' ⟨rfl, rfl⟩
  go_wp2_with fail
  refine region_tail 6 mw.mixed (by kernel_rfl) ?_
  simp only [List.take_succ_cons, List.take_zero, List.drop_succ_cons, List.drop_zero]
  repeat still_step
  refine wpStill_nil ?_
  go_wp2_with fail
  go_end0
  rw [← HP.out]
  exact ⟨rfl, ((((h.alloc _).drewN _).drew.setReg a ha q).setPc _).ex, (((below_drewN ((Below.refl _ _).alloc hBw _) _).drew).setCell h.hS _).setCell h.hS _⟩
set_option maxRecDepth 100000 in
set_option maxHeartbeats 4000000 in
theorem p25x {w : World} {B S : Nat} {own : Nat → Nat} {cv : Value} {i0 i1 : List Int} {E st : Int} {σ : Mst} {f : Nat → Value} {vl vh vi0 vi1 vc : Value} {g0 g1 : Nat} (h : pm.Mem w B S own cv i0 i1 E st σ f vl vh vi0 vi1 vc g0 g1) (hpc : 0 ≤ σ.pc ∧ σ.pc ≤ 30000) (a b c : Nat) (q : Int) (ha : a < 8) (hb : b < 8) (hc : c < 8) (hq : opF (5) (σ.r b) (σ.r c) = (q, false)) :
    Calls Try.prog 35 #[.pointer (some ⟨S, 0, none⟩), .agg #[.int .i64 25, .int .i64 a, .int .i64 b, .int .i64 c, .int .i64 0]] w (PStep B S cv i0 i1 E st σ w (.error 2)) := by
  have hlt := h.lt
  have c20 := h.cpc
  have f20 := h.blk.frozen 20
  obtain ⟨pc, hpce⟩ : ∃ pc, σ.pc = pc := ⟨_, rfl⟩
  rw [hpce] at hpc c20
  have HP := Lib.hid hpce
  clear hpce
  have hBw : B ≤ w.heap.size := Nat.le_trans h.hS (Nat.le_of_lt hlt)
  have n1 : S ≠ w.heap.size := by omega
  have n2 : w.heap.size ≠ S := by omega
  have a' : (a : Int) < 8 := by omega
  have cr0 := h.cr a ha
  have b' : (b : Int) < 8 := by omega
  have cr1 := h.cr b hb
  have c' : (c : Int) < 8 := by omega
  have cr2 := h.cr c hc
  have fa := h.blk.frozen (7 + a)
  obtain ⟨rb, hrb⟩ : ∃ x, σ.r b = x := ⟨_, rfl⟩
  rw [hrb] at cr1 hq
  have HRb := Lib.hid hrb
  clear hrb
  obtain ⟨rc, hrc⟩ : ∃ x, σ.r c = x := ⟨_, rfl⟩
  rw [hrc] at cr2 hq
  have HRc := Lib.hid hrc
  clear hrc
  go_enter Try.func35, Try.ntmps35
  go_wp2_with fail
  go_quiet ((go_at_call 9; rw [show IntKind.i64.wrap 5 = 5 from by decide]; exact Calls.quiet_of_same ((op_is (5) rb rc q false hq _).mono fun _ _ h => ⟨h.1, h.2.symm⟩)))
  go_wp2_with fail
  refine (mw.must_false _ _).mono ?_
  rintro e w' ⟨rfl, rfl⟩
  go_wp2_with fail
  exact ⟨rfl, rfl, ((h.alloc _).drewN _).ex, below_drewN ((Below.refl _ _).alloc hBw _) _⟩
set_option maxRecDepth 100000 in
set_option maxHeartbeats 4000000 in
theorem p26 {w : World} {B S : Nat} {own : Nat → Nat} {cv : Value} {i0 i1 : List Int} {E st : Int} {σ : Mst} {f : Nat → Value} {vl vh vi0 vi1 vc : Value} {g0 g1 : Nat} (h : pm.Mem w B S own cv i0 i1 E st σ f vl vh vi0 vi1 vc g0 g1) (hpc : 0 ≤ σ.pc ∧ σ.pc ≤ 30000) (a b c : Nat) (q : Int) (ha : a < 8) (hb : b < 8) (hc : c < 8) (hq : opF (6) (σ.r b) (σ.r c) = (q, true)) :
    Calls Try.prog 35 #[.pointer (some ⟨S, 0, none⟩), .agg #[.int .i64 26, .int .i64 a, .int .i64 b, .int .i64 c, .int .i64 0]] w (PStep B S cv i0 i1 E st σ w (goOn σ (upd σ a q))) := by
  have hlt := h.lt
  have c20 := h.cpc
  have f20 := h.blk.frozen 20
  obtain ⟨pc, hpce⟩ : ∃ pc, σ.pc = pc := ⟨_, rfl⟩
  rw [hpce] at hpc c20
  have HP := Lib.hid hpce
  clear hpce
  have hBw : B ≤ w.heap.size := Nat.le_trans h.hS (Nat.le_of_lt hlt)
  have n1 : S ≠ w.heap.size := by omega
  have n2 : w.heap.size ≠ S := by omega
  have a' : (a : Int) < 8 := by omega
  have cr0 := h.cr a ha
  have b' : (b : Int) < 8 := by omega
  have cr1 := h.cr b hb
  have c' : (c : Int) < 8 := by omega
  have cr2 := h.cr c hc
  have fa := h.blk.frozen (7 + a)
  obtain ⟨rb, hrb⟩ : ∃ x, σ.r b = x := ⟨_, rfl⟩
  rw [hrb] at cr1 hq
  have HRb := Lib.hid hrb
  clear hrb
  obtain ⟨rc, hrc⟩ : ∃ x, σ.r c = x := ⟨_, rfl⟩
  rw [hrc] at cr2 hq
  have HRc := Lib.hid hrc
  clear hrc
  go_enter Try.func35, Try.ntmps35
  go_wp2_with fail
  go_quiet ((go_at_call 9; rw [show IntKind.i64.wrap 6 = 6 from by decide]; exact Calls.quiet_of_same ((op_is (6) rb rc q true hq _).mono fun _ _ h => ⟨h.1, h.2.symm⟩)))
  go_wp2_with fail
  refine (mw.must_true _ _).mono ?_
  rintro e w' ⟨rfl, rfl⟩
  go_wp2_with fail
  refine region_tail 6 mw.mixed (by kernel_rfl) ?_
  simp only [List.take_succ_cons, List.take_zero, List.drop_succ_cons, List.drop_zero]
  repeat still_step
  refine wpStill_nil ?_
  go_wp2_with fail
  go_end0
  rw [← HP.out]
  exact ⟨rfl, ((((h.alloc _).drewN _).drew.setReg a ha q).setPc _).ex, (((below_drewN ((Below.refl _ _).alloc hBw _) _).drew).setCell h.hS _).setCell h.hS _⟩
set_option maxRecDepth 100000 in
set_option maxHeartbeats 4000000 in
theorem p26x {w : World} {B S : Nat} {own : Nat → Nat} {cv : Value} {i0 i1 : List Int} {E st : Int} {σ : Mst} {f : Nat → Value} {vl vh vi0 vi1 vc : Value} {g0 g1 : Nat} (h : pm.Mem w B S own cv i0 i1 E st σ f vl vh vi0 vi1 vc g0 g1) (hpc : 0 ≤ σ.pc ∧ σ.pc ≤ 30000) (a b c : Nat) (q : Int) (ha : a < 8) (hb : b < 8) (hc : c < 8) (hq : opF (6) (σ.r b) (σ.r c) = (q, false)) :
    Calls Try.prog 35 #[.pointer (some ⟨S, 0, none⟩), .agg #[.int .i64 26, .int .i64 a, .int .i64 b, .int .i64 c, .int .i64 0]] w (PStep B S cv i0 i1 E st σ w (.error 2)) := by
  have hlt := h.lt
  have c20 := h.cpc
  have f20 := h.blk.frozen 20
  obtain ⟨pc, hpce⟩ : ∃ pc, σ.pc = pc := ⟨_, rfl⟩
  rw [hpce] at hpc c20
  have HP := Lib.hid hpce
  clear hpce
  have hBw : B ≤ w.heap.size := Nat.le_trans h.hS (Nat.le_of_lt hlt)
  have n1 : S ≠ w.heap.size := by omega
  have n2 : w.heap.size ≠ S := by omega
  have a' : (a : Int) < 8 := by omega
  have cr0 := h.cr a ha
  have b' : (b : Int) < 8 := by omega
  have cr1 := h.cr b hb
  have c' : (c : Int) < 8 := by omega
  have cr2 := h.cr c hc
  have fa := h.blk.frozen (7 + a)
  obtain ⟨rb, hrb⟩ : ∃ x, σ.r b = x := ⟨_, rfl⟩
  rw [hrb] at cr1 hq
  have HRb := Lib.hid hrb
  clear hrb
  obtain ⟨rc, hrc⟩ : ∃ x, σ.r c = x := ⟨_, rfl⟩
  rw [hrc] at cr2 hq
  have HRc := Lib.hid hrc
  clear hrc
  go_enter Try.func35, Try.ntmps35
  go_wp2_with fail
  go_quiet ((go_at_call 9; rw [show IntKind.i64.wrap 6 = 6 from by decide]; exact Calls.quiet_of_same ((op_is (6) rb rc q false hq _).mono fun _ _ h => ⟨h.1, h.2.symm⟩)))
  go_wp2_with fail
  refine (mw.must_false _ _).mono ?_
  rintro e w' ⟨rfl, rfl⟩
  go_wp2_with fail
  exact ⟨rfl, rfl, ((h.alloc _).drewN _).ex, below_drewN ((Below.refl _ _).alloc hBw _) _⟩
end mst
end Go.Proofs.Ytpcihajmcejliaa
