/- The walk of the machine's step, some of its orders. -/
import Derived.Test.YtpcihajmcejliaaMachStep
namespace Go.Proofs.Ytpcihajmcejliaa
open Go.RowKit
open mst
namespace mst
set_option maxRecDepth 100000 in
set_option maxHeartbeats 4000000 in
theorem p1 {w : World} {B S : Nat} {own : Nat → Nat} {cv : Value} {i0 i1 : List Int} {E st : Int} {σ : Mst} {f : Nat → Value} {vl vh vi0 vi1 vc : Value} {g0 g1 : Nat} (h : pm.Mem w B S own cv i0 i1 E st σ f vl vh vi0 vi1 vc g0 g1) (hpc : 0 ≤ σ.pc ∧ σ.pc ≤ 30000) (a : Nat) (n : Int) (ha : a < 8) :
    Calls Try.prog 35 #[.pointer (some ⟨S, 0, none⟩), .agg #[.int .i64 1, .int .i64 a, .int .i64 0, .int .i64 0, .int .i64 n]] w (PStep B S cv i0 i1 E st σ w (goOn σ (upd σ a n))) := by
  have hlt := h.lt
  have c20 := h.cpc
  have f20 := h.blk.frozen 20
  obtain ⟨pc, hpce⟩ : ∃ pc, σ.pc = pc := ⟨_, rfl⟩
  rw [hpce] at hpc c20
  have HP := Lib.hid hpce
  clear hpce
  have a' : (a : Int) < 8 := by omega
  have cr0 := h.cr a ha
  have fa := h.blk.frozen (7 + a)
  go_enter Try.func35, Try.ntmps35
  go_wp2_with fail
  refine region_tail 7 mw.mixed (by kernel_rfl) ?_
  simp only [List.take_succ_cons, List.take_zero, List.drop_succ_cons, List.drop_zero]
  repeat still_step
  refine wpStill_nil ?_
  go_wp2_with fail
  go_end0
  rw [← HP.out]
  exact ⟨rfl, (((h.setReg a ha n).setPc _).alloc _).drew.ex, ((((Below.refl _ _).setCell h.hS _).setCell h.hS _).alloc (by simpa using Nat.le_trans h.hS (Nat.le_of_lt hlt)) _).drew⟩
set_option maxRecDepth 100000 in
set_option maxHeartbeats 4000000 in
theorem p2 {w : World} {B S : Nat} {own : Nat → Nat} {cv : Value} {i0 i1 : List Int} {E st : Int} {σ : Mst} {f : Nat → Value} {vl vh vi0 vi1 vc : Value} {g0 g1 : Nat} (h : pm.Mem w B S own cv i0 i1 E st σ f vl vh vi0 vi1 vc g0 g1) (hpc : 0 ≤ σ.pc ∧ σ.pc ≤ 30000) (a b : Nat) (ha : a < 8) (hb : b < 8) :
    Calls Try.prog 35 #[.pointer (some ⟨S, 0, none⟩), .agg #[.int .i64 2, .int .i64 a, .int .i64 b, .int .i64 0, .int .i64 0]] w (PStep B S cv i0 i1 E st σ w (goOn σ (upd σ a (σ.r b)))) := by
  have hlt := h.lt
  have c20 := h.cpc
  have f20 := h.blk.frozen 20
  obtain ⟨pc, hpce⟩ : ∃ pc, σ.pc = pc := ⟨_, rfl⟩
  rw [hpce] at hpc c20
  have HP := Lib.hid hpce
  clear hpce
  have a' : (a : Int) < 8 := by omega
  have cr0 := h.cr a ha
  have b' : (b : Int) < 8 := by omega
  have cr1 := h.cr b hb
  have fa := h.blk.frozen (7 + a)
  obtain ⟨rb, hrb⟩ : ∃ x, σ.r b = x := ⟨_, rfl⟩
  rw [hrb] at cr1 ⊢
  have HR := Lib.hid hrb
  clear hrb
  go_enter Try.func35, Try.ntmps35
  go_wp2_with fail
  refine region_tail 11 mw.mixed (by kernel_rfl) ?_
  simp only [List.take_succ_cons, List.take_zero, List.drop_succ_cons, List.drop_zero]
  repeat still_step
  refine wpStill_nil ?_
  go_wp2_with fail
  go_end0
  rw [← HP.out]
  exact ⟨rfl, (((h.setReg a ha rb).setPc _).alloc _).drew.ex, ((((Below.refl _ _).setCell h.hS _).setCell h.hS _).alloc (by simpa using Nat.le_trans h.hS (Nat.le_of_lt hlt)) _).drew⟩
set_option maxRecDepth 100000 in
set_option maxHeartbeats 4000000 in
theorem p3 {w : World} {B S : Nat} {own : Nat → Nat} {cv : Value} {i0 i1 : List Int} {E st : Int} {σ : Mst} {f : Nat → Value} {vl vh vi0 vi1 vc : Value} {g0 g1 : Nat} (h : pm.Mem w B S own cv i0 i1 E st σ f vl vh vi0 vi1 vc g0 g1) (hpc : 0 ≤ σ.pc ∧ σ.pc ≤ 30000) (a b : Nat) (n at_ : Int) (ha : a < 8) (hb : b < 8) (hat : Hid (wrap64 (σ.r b + n) = at_)) :
    Calls Try.prog 35 #[.pointer (some ⟨S, 0, none⟩), .agg #[.int .i64 3, .int .i64 a, .int .i64 b, .int .i64 0, .int .i64 n]] w (PStep B S cv i0 i1 E st σ w (goOn σ (upd σ a at_))) := by
  have hlt := h.lt
  have c20 := h.cpc
  have f20 := h.blk.frozen 20
  obtain ⟨pc, hpce⟩ : ∃ pc, σ.pc = pc := ⟨_, rfl⟩
  rw [hpce] at hpc c20
  have HP := Lib.hid hpce
  clear hpce
  have a' : (a : Int) < 8 := by omega
  have cr0 := h.cr a ha
  have b' : (b : Int) < 8 := by omega
  have cr1 := h.cr b hb
  have fa := h.blk.frozen (7 + a)
  obtain ⟨rb, hrb⟩ : ∃ x, σ.r b = x := ⟨_, rfl⟩
  rw [hrb] at cr1 hat
  have HR := Lib.hid hrb
  clear hrb
  have hwr : IntKind.i64.wrap (rb + n) = at_ := by rw [IntWalk.i64_left]; exact hat.out
  go_enter Try.func35, Try.ntmps35
  go_wp2_with fail
  refine region_tail 14 mw.mixed (by kernel_rfl) ?_
  simp only [List.take_succ_cons, List.take_zero, List.drop_succ_cons, List.drop_zero]
  repeat still_step
  refine wpStill_nil ?_
  clear hwr
  go_wp2_with fail
  go_end0
  rw [← HP.out]
  exact ⟨rfl, (((h.setReg a ha at_).setPc _).alloc _).drew.ex, ((((Below.refl _ _).setCell h.hS _).setCell h.hS _).alloc (by simpa using Nat.le_trans h.hS (Nat.le_of_lt hlt)) _).drew⟩
end mst
end Go.Proofs.Ytpcihajmcejliaa
