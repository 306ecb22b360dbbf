/- The walk of the reference's step, some of its orders. -/
import Derived.Test.YtpcihajmcejliaaMachRStep
namespace Go.Proofs.Ytpcihajmcejliaa
open Go.RowKit
open mst
namespace mst
set_option maxRecDepth 100000 in
set_option maxHeartbeats 4000000 in
theorem r27 {w : World} {B S : Nat} {own : Nat → Nat} {i0 i1 : List Int} {E st : Int} {σ : Mst} {f : Nat → Value} {vl vh vi0 vi1 vc : Value} {g0 g1 gr : Nat} (h : rm.Mem w B S own i0 i1 E st σ f vl vh vi0 vi1 vc g0 g1 gr) (hpc : 0 ≤ σ.pc ∧ σ.pc ≤ 30000) (a b c : Nat) (q : Int) (ha : a < 8) (hb : b < 8) (hc : c < 8) (hq : opF (7) (σ.r b) (σ.r c) = (q, true)) (hob : -9223372036854775808 ≤ σ.r b ∧ σ.r b ≤ 9223372036854775807) (hoc : -9223372036854775808 ≤ σ.r c ∧ σ.r c ≤ 9223372036854775807) :
    Calls Try.prog 28 #[.pointer (some ⟨S, 0, none⟩), .agg #[.int .i64 27, .int .i64 a, .int .i64 b, .int .i64 c, .int .i64 0]] w (RStep B S i0 i1 E st σ w (goOn σ (upd σ a q))) := by
  have hlt := h.lt
  have hgl := h.ltr
  have hne := h.ne
  have hne2 : gr ≠ S := fun e => hne e.symm
  have c6 := h.crs
  have c12 := h.cpc
  have f12 := h.blk.frozen 12
  obtain ⟨pc, hpce⟩ : ∃ pc, σ.pc = pc := ⟨_, rfl⟩
  rw [hpce] at hpc c12
  have HP := Lib.hid hpce
  clear hpce
  have hBw : B ≤ w.heap.size := Nat.le_trans h.hS (Nat.le_of_lt hlt)
  have a' : (a : Int) < 8 := by omega
  have cr0 := h.cr a ha
  have b' : (b : Int) < 8 := by omega
  have cr1 := h.cr b hb
  have c' : (c : Int) < 8 := by omega
  have cr2 := h.cr c hc
  have fa := h.rg.frozen a
  obtain ⟨rb, hrb⟩ : ∃ x, σ.r b = x := ⟨_, rfl⟩
  rw [hrb] at cr1 hq hob
  have HRb := Lib.hid hrb
  clear hrb
  obtain ⟨rc, hrc⟩ : ∃ x, σ.r c = x := ⟨_, rfl⟩
  rw [hrc] at cr2 hq hoc
  have HRc := Lib.hid hrc
  clear hrc
  have HO := Lib.hid (And.intro hob hoc)
  clear hob hoc
  go_enter Try.func28, Try.ntmps28
  go_wp2_with fail
  go_quiet ((go_at_call 10; rw [show IntKind.i64.wrap 7 = 7 from by decide]; exact Calls.quiet_of_same ((rop_is (7) rb rc q true HO.out.1 HO.out.2 hq _).mono fun _ _ h => ⟨h.1, h.2.symm⟩)))
  go_wp2_with fail
  go_ret
  rw [← HP.out]
  exact ⟨rfl, ((((h.alloc _).drewN _).setReg a q).setPc _).ex, ((below_drewN ((Below.refl _ _).alloc hBw _) _).setCell h.hg _).setCell h.hS _⟩
set_option maxRecDepth 100000 in
set_option maxHeartbeats 4000000 in
theorem r27x {w : World} {B S : Nat} {own : Nat → Nat} {i0 i1 : List Int} {E st : Int} {σ : Mst} {f : Nat → Value} {vl vh vi0 vi1 vc : Value} {g0 g1 gr : Nat} (h : rm.Mem w B S own i0 i1 E st σ f vl vh vi0 vi1 vc g0 g1 gr) (hpc : 0 ≤ σ.pc ∧ σ.pc ≤ 30000) (a b c : Nat) (q : Int) (ha : a < 8) (hb : b < 8) (hc : c < 8) (hq : opF (7) (σ.r b) (σ.r c) = (q, false)) (hob : -9223372036854775808 ≤ σ.r b ∧ σ.r b ≤ 9223372036854775807) (hoc : -9223372036854775808 ≤ σ.r c ∧ σ.r c ≤ 9223372036854775807) :
    Calls Try.prog 28 #[.pointer (some ⟨S, 0, none⟩), .agg #[.int .i64 27, .int .i64 a, .int .i64 b, .int .i64 c, .int .i64 0]] w (RStep B S i0 i1 E st σ w (.error 2)) := by
  have hlt := h.lt
  have hgl := h.ltr
  have hne := h.ne
  have hne2 : gr ≠ S := fun e => hne e.symm
  have c6 := h.crs
  have c12 := h.cpc
  have f12 := h.blk.frozen 12
  obtain ⟨pc, hpce⟩ : ∃ pc, σ.pc = pc := ⟨_, rfl⟩
  rw [hpce] at hpc c12
  have HP := Lib.hid hpce
  clear hpce
  have hBw : B ≤ w.heap.size := Nat.le_trans h.hS (Nat.le_of_lt hlt)
  have a' : (a : Int) < 8 := by omega
  have cr0 := h.cr a ha
  have b' : (b : Int) < 8 := by omega
  have cr1 := h.cr b hb
  have c' : (c : Int) < 8 := by omega
  have cr2 := h.cr c hc
  have fa := h.rg.frozen a
  obtain ⟨rb, hrb⟩ : ∃ x, σ.r b = x := ⟨_, rfl⟩
  rw [hrb] at cr1 hq hob
  have HRb := Lib.hid hrb
  clear hrb
  obtain ⟨rc, hrc⟩ : ∃ x, σ.r c = x := ⟨_, rfl⟩
  rw [hrc] at cr2 hq hoc
  have HRc := Lib.hid hrc
  clear hrc
  have HO := Lib.hid (And.intro hob hoc)
  clear hob hoc
  go_enter Try.func28, Try.ntmps28
  go_wp2_with fail
  go_quiet ((go_at_call 10; rw [show IntKind.i64.wrap 7 = 7 from by decide]; exact Calls.quiet_of_same ((rop_is (7) rb rc q false HO.out.1 HO.out.2 hq _).mono fun _ _ h => ⟨h.1, h.2.symm⟩)))
  go_wp2_with fail
  go_ret
  exact ⟨rfl, ((h.alloc _).drewN _).ex, below_drewN ((Below.refl _ _).alloc hBw _) _⟩
set_option maxRecDepth 100000 in
set_option maxHeartbeats 4000000 in
theorem r28 {w : World} {B S : Nat} {own : Nat → Nat} {i0 i1 : List Int} {E st : Int} {σ : Mst} {f : Nat → Value} {vl vh vi0 vi1 vc : Value} {g0 g1 gr : Nat} (h : rm.Mem w B S own i0 i1 E st σ f vl vh vi0 vi1 vc g0 g1 gr) (hpc : 0 ≤ σ.pc ∧ σ.pc ≤ 30000) (a b c : Nat) (q : Int) (ha : a < 8) (hb : b < 8) (hc : c < 8) (hq : opF (8) (σ.r b) (σ.r c) = (q, true)) (hob : -9223372036854775808 ≤ σ.r b ∧ σ.r b ≤ 9223372036854775807) (hoc : -9223372036854775808 ≤ σ.r c ∧ σ.r c ≤ 9223372036854775807) :
    Calls Try.prog 28 #[.pointer (some ⟨S, 0, none⟩), .agg #[.int .i64 28, .int .i64 a, .int .i64 b, .int .i64 c, .int .i64 0]] w (RStep B S i0 i1 E st σ w (goOn σ (upd σ a q))) := by
  have hlt := h.lt
  have hgl := h.ltr
  have hne := h.ne
  have hne2 : gr ≠ S := fun e => hne e.symm
  have c6 := h.crs
  have c12 := h.cpc
  have f12 := h.blk.frozen 12
  obtain ⟨pc, hpce⟩ : ∃ pc, σ.pc = pc := ⟨_, rfl⟩
  rw [hpce] at hpc c12
  have HP := Lib.hid hpce
  clear hpce
  have hBw : B ≤ w.heap.size := Nat.le_trans h.hS (Nat.le_of_lt hlt)
  have a' : (a : Int) < 8 := by omega
  have cr0 := h.cr a ha
  have b' : (b : Int) < 8 := by omega
  have cr1 := h.cr b hb
  have c' : (c : Int) < 8 := by omega
  have cr2 := h.cr c hc
  have fa := h.rg.frozen a
  obtain ⟨rb, hrb⟩ : ∃ x, σ.r b = x := ⟨_, rfl⟩
  rw [hrb] at cr1 hq hob
  have HRb := Lib.hid hrb
  clear hrb
  obtain ⟨rc, hrc⟩ : ∃ x, σ.r c = x := ⟨_, rfl⟩
  rw [hrc] at cr2 hq hoc
  have HRc := Lib.hid hrc
  clear hrc
  have HO := Lib.hid (And.intro hob hoc)
  clear hob hoc
  go_enter Try.func28, Try.ntmps28
  go_wp2_with fail
  go_quiet ((go_at_call 10; rw [show IntKind.i64.wrap 8 = 8 from by decide]; exact Calls.quiet_of_same ((rop_is (8) rb rc q true HO.out.1 HO.out.2 hq _).mono fun _ _ h => ⟨h.1, h.2.symm⟩)))
  go_wp2_with fail
  go_ret
  rw [← HP.out]
  exact ⟨rfl, ((((h.alloc _).drewN _).setReg a q).setPc _).ex, ((below_drewN ((Below.refl _ _).alloc hBw _) _).setCell h.hg _).setCell h.hS _⟩
set_option maxRecDepth 100000 in
set_option maxHeartbeats 4000000 in
theorem r28x {w : World} {B S : Nat} {own : Nat → Nat} {i0 i1 : List Int} {E st : Int} {σ : Mst} {f : Nat → Value} {vl vh vi0 vi1 vc : Value} {g0 g1 gr : Nat} (h : rm.Mem w B S own i0 i1 E st σ f vl vh vi0 vi1 vc g0 g1 gr) (hpc : 0 ≤ σ.pc ∧ σ.pc ≤ 30000) (a b c : Nat) (q : Int) (ha : a < 8) (hb : b < 8) (hc : c < 8) (hq : opF (8) (σ.r b) (σ.r c) = (q, false)) (hob : -9223372036854775808 ≤ σ.r b ∧ σ.r b ≤ 9223372036854775807) (hoc : -9223372036854775808 ≤ σ.r c ∧ σ.r c ≤ 9223372036854775807) :
    Calls Try.prog 28 #[.pointer (some ⟨S, 0, none⟩), .agg #[.int .i64 28, .int .i64 a, .int .i64 b, .int .i64 c, .int .i64 0]] w (RStep B S i0 i1 E st σ w (.error 2)) := by
  have hlt := h.lt
  have hgl := h.ltr
  have hne := h.ne
  have hne2 : gr ≠ S := fun e => hne e.symm
  have c6 := h.crs
  have c12 := h.cpc
  have f12 := h.blk.frozen 12
  obtain ⟨pc, hpce⟩ : ∃ pc, σ.pc = pc := ⟨_, rfl⟩
  rw [hpce] at hpc c12
  have HP := Lib.hid hpce
  clear hpce
  have hBw : B ≤ w.heap.size := Nat.le_trans h.hS (Nat.le_of_lt hlt)
  have a' : (a : Int) < 8 := by omega
  have cr0 := h.cr a ha
  have b' : (b : Int) < 8 := by omega
  have cr1 := h.cr b hb
  have c' : (c : Int) < 8 := by omega
  have cr2 := h.cr c hc
  have fa := h.rg.frozen a
  obtain ⟨rb, hrb⟩ : ∃ x, σ.r b = x := ⟨_, rfl⟩
  rw [hrb] at cr1 hq hob
  have HRb := Lib.hid hrb
  clear hrb
  obtain ⟨rc, hrc⟩ : ∃ x, σ.r c = x := ⟨_, rfl⟩
  rw [hrc] at cr2 hq hoc
  have HRc := Lib.hid hrc
  clear hrc
  have HO := Lib.hid (And.intro hob hoc)
  clear hob hoc
  go_enter Try.func28, Try.ntmps28
  go_wp2_with fail
  go_quiet ((go_at_call 10; rw [show IntKind.i64.wrap 8 = 8 from by decide]; exact Calls.quiet_of_same ((rop_is (8) rb rc q false HO.out.1 HO.out.2 hq _).mono fun _ _ h => ⟨h.1, h.2.symm⟩)))
  go_wp2_with fail
  go_ret
  exact ⟨rfl, ((h.alloc _).drewN _).ex, below_drewN ((Below.refl _ _).alloc hBw _) _⟩
set_option maxRecDepth 100000 in
set_option maxHeartbeats 4000000 in
theorem r29 {w : World} {B S : Nat} {own : Nat → Nat} {i0 i1 : List Int} {E st : Int} {σ : Mst} {f : Nat → Value} {vl vh vi0 vi1 vc : Value} {g0 g1 gr : Nat} (h : rm.Mem w B S own i0 i1 E st σ f vl vh vi0 vi1 vc g0 g1 gr) (hpc : 0 ≤ σ.pc ∧ σ.pc ≤ 30000) (a b c : Nat) (q : Int) (ha : a < 8) (hb : b < 8) (hc : c < 8) (hq : opF (9) (σ.r b) (σ.r c) = (q, true)) (hob : -9223372036854775808 ≤ σ.r b ∧ σ.r b ≤ 9223372036854775807) (hoc : -9223372036854775808 ≤ σ.r c ∧ σ.r c ≤ 9223372036854775807) :
    Calls Try.prog 28 #[.pointer (some ⟨S, 0, none⟩), .agg #[.int .i64 29, .int .i64 a, .int .i64 b, .int .i64 c, .int .i64 0]] w (RStep B S i0 i1 E st σ w (goOn σ (upd σ a q))) := by
  have hlt := h.lt
  have hgl := h.ltr
  have hne := h.ne
  have hne2 : gr ≠ S := fun e => hne e.symm
  have c6 := h.crs
  have c12 := h.cpc
  have f12 := h.blk.frozen 12
  obtain ⟨pc, hpce⟩ : ∃ pc, σ.pc = pc := ⟨_, rfl⟩
  rw [hpce] at hpc c12
  have HP := Lib.hid hpce
  clear hpce
  have hBw : B ≤ w.heap.size := Nat.le_trans h.hS (Nat.le_of_lt hlt)
  have a' : (a : Int) < 8 := by omega
  have cr0 := h.cr a ha
  have b' : (b : Int) < 8 := by omega
  have cr1 := h.cr b hb
  have c' : (c : Int) < 8 := by omega
  have cr2 := h.cr c hc
  have fa := h.rg.frozen a
  obtain ⟨rb, hrb⟩ : ∃ x, σ.r b = x := ⟨_, rfl⟩
  rw [hrb] at cr1 hq hob
  have HRb := Lib.hid hrb
  clear hrb
  obtain ⟨rc, hrc⟩ : ∃ x, σ.r c = x := ⟨_, rfl⟩
  rw [hrc] at cr2 hq hoc
  have HRc := Lib.hid hrc
  clear hrc
  have HO := Lib.hid (And.intro hob hoc)
  clear hob hoc
  go_enter Try.func28, Try.ntmps28
  go_wp2_with fail
  go_quiet ((go_at_call 10; rw [show IntKind.i64.wrap 9 = 9 from by decide]; exact Calls.quiet_of_same ((rop_is (9) rb rc q true HO.out.1 HO.out.2 hq _).mono fun _ _ h => ⟨h.1, h.2.symm⟩)))
  go_wp2_with fail
  go_ret
  rw [← HP.out]
  exact ⟨rfl, ((((h.alloc _).drewN _).setReg a q).setPc _).ex, ((below_drewN ((Below.refl _ _).alloc hBw _) _).setCell h.hg _).setCell h.hS _⟩
set_option maxRecDepth 100000 in
set_option maxHeartbeats 4000000 in
theorem r29x {w : World} {B S : Nat} {own : Nat → Nat} {i0 i1 : List Int} {E st : Int} {σ : Mst} {f : Nat → Value} {vl vh vi0 vi1 vc : Value} {g0 g1 gr : Nat} (h : rm.Mem w B S own i0 i1 E st σ f vl vh vi0 vi1 vc g0 g1 gr) (hpc : 0 ≤ σ.pc ∧ σ.pc ≤ 30000) (a b c : Nat) (q : Int) (ha : a < 8) (hb : b < 8) (hc : c < 8) (hq : opF (9) (σ.r b) (σ.r c) = (q, false)) (hob : -9223372036854775808 ≤ σ.r b ∧ σ.r b ≤ 9223372036854775807) (hoc : -9223372036854775808 ≤ σ.r c ∧ σ.r c ≤ 9223372036854775807) :
    Calls Try.prog 28 #[.pointer (some ⟨S, 0, none⟩), .agg #[.int .i64 29, .int .i64 a, .int .i64 b, .int .i64 c, .int .i64 0]] w (RStep B S i0 i1 E st σ w (.error 2)) := by
  have hlt := h.lt
  have hgl := h.ltr
  have hne := h.ne
  have hne2 : gr ≠ S := fun e => hne e.symm
  have c6 := h.crs
  have c12 := h.cpc
  have f12 := h.blk.frozen 12
  obtain ⟨pc, hpce⟩ : ∃ pc, σ.pc = pc := ⟨_, rfl⟩
  rw [hpce] at hpc c12
  have HP := Lib.hid hpce
  clear hpce
  have hBw : B ≤ w.heap.size := Nat.le_trans h.hS (Nat.le_of_lt hlt)
  have a' : (a : Int) < 8 := by omega
  have cr0 := h.cr a ha
  have b' : (b : Int) < 8 := by omega
  have cr1 := h.cr b hb
  have c' : (c : Int) < 8 := by omega
  have cr2 := h.cr c hc
  have fa := h.rg.frozen a
  obtain ⟨rb, hrb⟩ : ∃ x, σ.r b = x := ⟨_, rfl⟩
  rw [hrb] at cr1 hq hob
  have HRb := Lib.hid hrb
  clear hrb
  obtain ⟨rc, hrc⟩ : ∃ x, σ.r c = x := ⟨_, rfl⟩
  rw [hrc] at cr2 hq hoc
  have HRc := Lib.hid hrc
  clear hrc
  have HO := Lib.hid (And.intro hob hoc)
  clear hob hoc
  go_enter Try.func28, Try.ntmps28
  go_wp2_with fail
  go_quiet ((go_at_call 10; rw [show IntKind.i64.wrap 9 = 9 from by decide]; exact Calls.quiet_of_same ((rop_is (9) rb rc q false HO.out.1 HO.out.2 hq _).mono fun _ _ h => ⟨h.1, h.2.symm⟩)))
  go_wp2_with fail
  go_ret
  exact ⟨rfl, ((h.alloc _).drewN _).ex, below_drewN ((Below.refl _ _).alloc hBw _) _⟩
end mst
end Go.Proofs.Ytpcihajmcejliaa
