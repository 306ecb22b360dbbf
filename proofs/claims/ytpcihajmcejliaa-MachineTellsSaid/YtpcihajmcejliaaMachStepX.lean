/- The walk of the machine's step, some of its orders. The walk of the machine's step, some of its orders. The walk of the machine's step, some of its orders. -/
import Derived.Test.YtpcihajmcejliaaMachStep
namespace Go.Proofs.Ytpcihajmcejliaa
open Go.RowKit
open mst
namespace mst
set_option maxRecDepth 100000 in
set_option maxHeartbeats 4000000 in
theorem p6 {w : World} {B S : Nat} {own : Nat → Nat} {cv : Value} {i0 i1 : List Int} {E st : Int} {σ : Mst} {f : Nat → Value} {vl vh vi0 vi1 vc : Value} {g0 g1 : Nat} (h : pm.Mem w B S own cv i0 i1 E st σ f vl vh vi0 vi1 vc g0 g1) (hpc : 0 ≤ σ.pc ∧ σ.pc ≤ 30000) (a b : Nat) (n at_ : Int) (ha : a < 8) (hb : b < 8) (hat : Hid (wrap64 (σ.r b + n) = at_)) (h0 : 0 ≤ at_) (h1 : at_ < σ.lo.length) :
    Calls Try.prog 35 #[.pointer (some ⟨S, 0, none⟩), .agg #[.int .i64 6, .int .i64 a, .int .i64 b, .int .i64 0, .int .i64 n]] w (PStep B S cv i0 i1 E st σ w (goOn σ { σ with lo := σ.lo.set at_.toNat (σ.r a) })) := by
  have hlt := h.lt
  have c20 := h.cpc
  have f20 := h.blk.frozen 20
  obtain ⟨pc, hpce⟩ : ∃ pc, σ.pc = pc := ⟨_, rfl⟩
  rw [hpce] at hpc c20
  have HP := Lib.hid hpce
  clear hpce
  have hBw : B ≤ w.heap.size := Nat.le_trans h.hS (Nat.le_of_lt hlt)
  have a' : (a : Int) < 8 := by omega
  have cr0 := h.cr a ha
  have b' : (b : Int) < 8 := by omega
  have cr1 := h.cr b hb
  have fa := h.blk.frozen (7 + a)
  have c15 := h.cw0
  have cx := h.lo.cell (k := at_.toNat) (by omega)
  have fx := h.lo.1.frozen at_.toNat
  have hg0 := h.lo.1.lt
  have hgS : g0 ≠ S := fun e => by have := h.lo.2.1; rw [e, h.oS] at this; cases this
  have hSg : S ≠ g0 := fun e => hgS e.symm
  have n1 : S ≠ w.heap.size := by omega
  have n2 : w.heap.size ≠ S := by omega
  have n3 : g0 ≠ w.heap.size := by omega
  have n4 : w.heap.size ≠ g0 := by omega
  obtain ⟨x, hx⟩ : ∃ x, σ.lo.getD at_.toNat 0 = x := ⟨_, rfl⟩
  rw [hx] at cx
  have HX := Lib.hid hx
  clear hx
  obtain ⟨len, hlen⟩ : ∃ x, σ.lo.length = x := ⟨_, rfl⟩
  rw [hlen] at h1 c15
  have HL := Lib.hid hlen
  clear hlen
  obtain ⟨ra, hra⟩ : ∃ x, σ.r a = x := ⟨_, rfl⟩
  rw [hra] at cr0 ⊢
  have HA := Lib.hid hra
  clear hra
  obtain ⟨rb, hrb⟩ : ∃ x, σ.r b = x := ⟨_, rfl⟩
  rw [hrb] at hat cr1
  have HR := Lib.hid hrb
  clear hrb
  go_enter Try.func35, Try.ntmps35
  go_wp2_with fail
  go_region_held3 (fun w' => w'.cell? ⟨w.heap.size, 0, none⟩ = some (.int .i64 6) ∧ w'.cell? ⟨w.heap.size, 1, none⟩ = some (.int .i64 a) ∧ w'.cell? ⟨w.heap.size, 2, none⟩ = some (.int .i64 b) ∧ w'.cell? ⟨w.heap.size, 3, none⟩ = some (.int .i64 0) ∧ w'.cell? ⟨w.heap.size, 4, none⟩ = some (.int .i64 n) ∧ w'.cell? ⟨S, 7 + a, none⟩ = some (.int .i64 ra))
    (go_keep)
    ((go_at_call 38; refine (mw.word_ok S g0 len len 0 6 a 0 n rb b _ (by simp; omega) (by omega) hb (cell_ad cr1) (cell_ad c15) at_ hat h0 h1).mono ?_; rintro e w' ⟨rfl, k, rfl⟩))
  rename_i hH
  clear hH
  go_wp2_with fail
  go_end0
  rw [← HP.out]
  exact ⟨rfl, ((((h.alloc _).alloc _).drewN _).setLo at_.toNat ra).setPc _ |>.ex, (((below_drewN (((Below.refl _ _).alloc hBw _).alloc (by simp; omega) _) _).setCell h.lo.2.2 _).setCell h.hS _)⟩
set_option maxRecDepth 100000 in
set_option maxHeartbeats 4000000 in
theorem p6x {w : World} {B S : Nat} {own : Nat → Nat} {cv : Value} {i0 i1 : List Int} {E st : Int} {σ : Mst} {f : Nat → Value} {vl vh vi0 vi1 vc : Value} {g0 g1 : Nat} (h : pm.Mem w B S own cv i0 i1 E st σ f vl vh vi0 vi1 vc g0 g1) (hpc : 0 ≤ σ.pc ∧ σ.pc ≤ 30000) (a b : Nat) (n at_ : Int) (ha : a < 8) (hb : b < 8) (hat : Hid (wrap64 (σ.r b + n) = at_)) (h0 : at_ < 0 ∨ σ.lo.length ≤ at_) :
    Calls Try.prog 35 #[.pointer (some ⟨S, 0, none⟩), .agg #[.int .i64 6, .int .i64 a, .int .i64 b, .int .i64 0, .int .i64 n]] w (PStep B S cv i0 i1 E st σ w (.error 6)) := by
  have hlt := h.lt
  have c20 := h.cpc
  have f20 := h.blk.frozen 20
  obtain ⟨pc, hpce⟩ : ∃ pc, σ.pc = pc := ⟨_, rfl⟩
  rw [hpce] at hpc c20
  have HP := Lib.hid hpce
  clear hpce
  have hBw : B ≤ w.heap.size := Nat.le_trans h.hS (Nat.le_of_lt hlt)
  have a' : (a : Int) < 8 := by omega
  have cr0 := h.cr a ha
  have b' : (b : Int) < 8 := by omega
  have cr1 := h.cr b hb
  have c15 := h.cw0
  have n1 : S ≠ w.heap.size := by omega
  have n2 : w.heap.size ≠ S := by omega
  obtain ⟨len, hlen⟩ : ∃ x, σ.lo.length = x := ⟨_, rfl⟩
  rw [hlen] at h0 c15
  have HL := Lib.hid hlen
  clear hlen
  obtain ⟨rb, hrb⟩ : ∃ x, σ.r b = x := ⟨_, rfl⟩
  rw [hrb] at hat cr1
  have HR := Lib.hid hrb
  clear hrb
  have H0 := Lib.hid h0
  clear h0
  go_enter Try.func35, Try.ntmps35
  go_wp2_with fail
  go_region_dies
  all_goals
    first
      | rw [show IntKind.i64.wrap 0 = ((0 : Nat) : Int) from rfl]
      | rw [show IntKind.i64.wrap 1 = ((1 : Nat) : Int) from rfl]
    refine (mw.word_bad S len len (some ⟨g0, 0, none⟩) 0 6 a 0 n rb b _ (by simp; omega) (by omega) hb (cell_ad cr1) (cell_ad c15) at_ hat H0.out).mono ?_
    rintro e w' ⟨rfl, k, rfl⟩
    exact ⟨rfl, rfl, (((h.alloc _).drew.alloc _).drewN _).ex, below_drewN ((((Below.refl _ _).alloc hBw _).drew).alloc (by simp; omega) _) _⟩
end mst
end Go.Proofs.Ytpcihajmcejliaa
namespace Go.Proofs.Ytpcihajmcejliaa
open Go.RowKit
open mst
namespace mst
set_option maxRecDepth 100000 in
set_option maxHeartbeats 4000000 in
theorem p7 {w : World} {B S : Nat} {own : Nat → Nat} {cv : Value} {i0 i1 : List Int} {E st : Int} {σ : Mst} {f : Nat → Value} {vl vh vi0 vi1 vc : Value} {g0 g1 : Nat} (h : pm.Mem w B S own cv i0 i1 E st σ f vl vh vi0 vi1 vc g0 g1) (hpc : 0 ≤ σ.pc ∧ σ.pc ≤ 30000) (a b : Nat) (n at_ : Int) (ha : a < 8) (hb : b < 8) (hat : Hid (wrap64 (σ.r b + n) = at_)) (h0 : 0 ≤ at_) (h1 : at_ < σ.hi.length) :
    Calls Try.prog 35 #[.pointer (some ⟨S, 0, none⟩), .agg #[.int .i64 7, .int .i64 a, .int .i64 b, .int .i64 0, .int .i64 n]] w (PStep B S cv i0 i1 E st σ w (goOn σ { σ with hi := σ.hi.set at_.toNat (σ.r a) })) := by
  have hlt := h.lt
  have c20 := h.cpc
  have f20 := h.blk.frozen 20
  obtain ⟨pc, hpce⟩ : ∃ pc, σ.pc = pc := ⟨_, rfl⟩
  rw [hpce] at hpc c20
  have HP := Lib.hid hpce
  clear hpce
  have hBw : B ≤ w.heap.size := Nat.le_trans h.hS (Nat.le_of_lt hlt)
  have a' : (a : Int) < 8 := by omega
  have cr0 := h.cr a ha
  have b' : (b : Int) < 8 := by omega
  have cr1 := h.cr b hb
  have fa := h.blk.frozen (7 + a)
  have c15 := h.cw1
  have cx := h.hi.cell (k := at_.toNat) (by omega)
  have fx := h.hi.1.frozen at_.toNat
  have hg0 := h.hi.1.lt
  have hgS : g1 ≠ S := fun e => by have := h.hi.2.1; rw [e, h.oS] at this; cases this
  have hSg : S ≠ g1 := fun e => hgS e.symm
  have n1 : S ≠ w.heap.size := by omega
  have n2 : w.heap.size ≠ S := by omega
  have n3 : g1 ≠ w.heap.size := by omega
  have n4 : w.heap.size ≠ g1 := by omega
  obtain ⟨x, hx⟩ : ∃ x, σ.hi.getD at_.toNat 0 = x := ⟨_, rfl⟩
  rw [hx] at cx
  have HX := Lib.hid hx
  clear hx
  obtain ⟨len, hlen⟩ : ∃ x, σ.hi.length = x := ⟨_, rfl⟩
  rw [hlen] at h1 c15
  have HL := Lib.hid hlen
  clear hlen
  obtain ⟨ra, hra⟩ : ∃ x, σ.r a = x := ⟨_, rfl⟩
  rw [hra] at cr0 ⊢
  have HA := Lib.hid hra
  clear hra
  obtain ⟨rb, hrb⟩ : ∃ x, σ.r b = x := ⟨_, rfl⟩
  rw [hrb] at hat cr1
  have HR := Lib.hid hrb
  clear hrb
  go_enter Try.func35, Try.ntmps35
  go_wp2_with fail
  go_region_held3 (fun w' => w'.cell? ⟨w.heap.size, 0, none⟩ = some (.int .i64 7) ∧ w'.cell? ⟨w.heap.size, 1, none⟩ = some (.int .i64 a) ∧ w'.cell? ⟨w.heap.size, 2, none⟩ = some (.int .i64 b) ∧ w'.cell? ⟨w.heap.size, 3, none⟩ = some (.int .i64 0) ∧ w'.cell? ⟨w.heap.size, 4, none⟩ = some (.int .i64 n) ∧ w'.cell? ⟨S, 7 + a, none⟩ = some (.int .i64 ra))
    (go_keep)
    ((go_at_call 38; refine (mw.word_ok S g1 len len 1 7 a 0 n rb b _ (by simp; omega) (by omega) hb (cell_ad cr1) (cell_ad c15) at_ hat h0 h1).mono ?_; rintro e w' ⟨rfl, k, rfl⟩))
  rename_i hH
  clear hH
  go_wp2_with fail
  go_end0
  rw [← HP.out]
  exact ⟨rfl, ((((h.alloc _).alloc _).drewN _).setHi at_.toNat ra).setPc _ |>.ex, (((below_drewN (((Below.refl _ _).alloc hBw _).alloc (by simp; omega) _) _).setCell h.hi.2.2 _).setCell h.hS _)⟩
set_option maxRecDepth 100000 in
set_option maxHeartbeats 4000000 in
theorem p7x {w : World} {B S : Nat} {own : Nat → Nat} {cv : Value} {i0 i1 : List Int} {E st : Int} {σ : Mst} {f : Nat → Value} {vl vh vi0 vi1 vc : Value} {g0 g1 : Nat} (h : pm.Mem w B S own cv i0 i1 E st σ f vl vh vi0 vi1 vc g0 g1) (hpc : 0 ≤ σ.pc ∧ σ.pc ≤ 30000) (a b : Nat) (n at_ : Int) (ha : a < 8) (hb : b < 8) (hat : Hid (wrap64 (σ.r b + n) = at_)) (h0 : at_ < 0 ∨ σ.hi.length ≤ at_) :
    Calls Try.prog 35 #[.pointer (some ⟨S, 0, none⟩), .agg #[.int .i64 7, .int .i64 a, .int .i64 b, .int .i64 0, .int .i64 n]] w (PStep B S cv i0 i1 E st σ w (.error 6)) := by
  have hlt := h.lt
  have c20 := h.cpc
  have f20 := h.blk.frozen 20
  obtain ⟨pc, hpce⟩ : ∃ pc, σ.pc = pc := ⟨_, rfl⟩
  rw [hpce] at hpc c20
  have HP := Lib.hid hpce
  clear hpce
  have hBw : B ≤ w.heap.size := Nat.le_trans h.hS (Nat.le_of_lt hlt)
  have a' : (a : Int) < 8 := by omega
  have cr0 := h.cr a ha
  have b' : (b : Int) < 8 := by omega
  have cr1 := h.cr b hb
  have c15 := h.cw1
  have n1 : S ≠ w.heap.size := by omega
  have n2 : w.heap.size ≠ S := by omega
  obtain ⟨len, hlen⟩ : ∃ x, σ.hi.length = x := ⟨_, rfl⟩
  rw [hlen] at h0 c15
  have HL := Lib.hid hlen
  clear hlen
  obtain ⟨rb, hrb⟩ : ∃ x, σ.r b = x := ⟨_, rfl⟩
  rw [hrb] at hat cr1
  have HR := Lib.hid hrb
  clear hrb
  have H0 := Lib.hid h0
  clear h0
  go_enter Try.func35, Try.ntmps35
  go_wp2_with fail
  go_region_dies
  all_goals
    first
      | rw [show IntKind.i64.wrap 0 = ((0 : Nat) : Int) from rfl]
      | rw [show IntKind.i64.wrap 1 = ((1 : Nat) : Int) from rfl]
    refine (mw.word_bad S len len (some ⟨g1, 0, none⟩) 1 7 a 0 n rb b _ (by simp; omega) (by omega) hb (cell_ad cr1) (cell_ad c15) at_ hat H0.out).mono ?_
    rintro e w' ⟨rfl, k, rfl⟩
    exact ⟨rfl, rfl, (((h.alloc _).drew.alloc _).drewN _).ex, below_drewN ((((Below.refl _ _).alloc hBw _).drew).alloc (by simp; omega) _) _⟩
end mst
end Go.Proofs.Ytpcihajmcejliaa
namespace Go.Proofs.Ytpcihajmcejliaa
open Go.RowKit
open mst
namespace mst
set_option maxRecDepth 100000 in
set_option maxHeartbeats 4000000 in
theorem p8 {w : World} {B S : Nat} {own : Nat → Nat} {cv : Value} {i0 i1 : List Int} {E st : Int} {σ : Mst} {f : Nat → Value} {vl vh vi0 vi1 vc : Value} {g0 g1 : Nat} (h : pm.Mem w B S own cv i0 i1 E st σ f vl vh vi0 vi1 vc g0 g1) (hpc : 0 ≤ σ.pc ∧ σ.pc ≤ 30000) (n : Int) :
    Calls Try.prog 35 #[.pointer (some ⟨S, 0, none⟩), .agg #[.int .i64 8, .int .i64 0, .int .i64 0, .int .i64 0, .int .i64 n]] w (PStep B S cv i0 i1 E st σ w (.ok { σ with pc := n })) := by
  have hlt := h.lt
  have c20 := h.cpc
  have f20 := h.blk.frozen 20
  obtain ⟨pc, hpce⟩ : ∃ pc, σ.pc = pc := ⟨_, rfl⟩
  rw [hpce] at hpc c20
  have HP := Lib.hid hpce
  clear hpce
  have hBw : B ≤ w.heap.size := Nat.le_trans h.hS (Nat.le_of_lt hlt)
  go_enter Try.func35, Try.ntmps35
  go_wp2_with fail
  go_end0
  exact ⟨rfl, ((h.setPc n).alloc _).ex, ((Below.refl _ _).setCell h.hS _).alloc (by simpa using hBw) _⟩
set_option maxRecDepth 100000 in
set_option maxHeartbeats 4000000 in
theorem p9 {w : World} {B S : Nat} {own : Nat → Nat} {cv : Value} {i0 i1 : List Int} {E st : Int} {σ : Mst} {f : Nat → Value} {vl vh vi0 vi1 vc : Value} {g0 g1 : Nat} (h : pm.Mem w B S own cv i0 i1 E st σ f vl vh vi0 vi1 vc g0 g1) (hpc : 0 ≤ σ.pc ∧ σ.pc ≤ 30000) (a : Nat) (n : Int) (ha : a < 8) (h0 : σ.r a = 0) :
    Calls Try.prog 35 #[.pointer (some ⟨S, 0, none⟩), .agg #[.int .i64 9, .int .i64 a, .int .i64 0, .int .i64 0, .int .i64 n]] w (PStep B S cv i0 i1 E st σ w (.ok { σ with pc := n })) := by
  have hlt := h.lt
  have c20 := h.cpc
  have f20 := h.blk.frozen 20
  obtain ⟨pc, hpce⟩ : ∃ pc, σ.pc = pc := ⟨_, rfl⟩
  rw [hpce] at hpc c20
  have HP := Lib.hid hpce
  clear hpce
  have hBw : B ≤ w.heap.size := Nat.le_trans h.hS (Nat.le_of_lt hlt)
  have a' : (a : Int) < 8 := by omega
  have cr0 := h.cr a ha
  obtain ⟨ra, hra⟩ : ∃ x, σ.r a = x := ⟨_, rfl⟩
  rw [hra] at h0 cr0
  have HA := Lib.hid hra
  clear hra
  have z : (ra == 0) = true := by simpa using h0
  have H0 := Lib.hid h0
  clear h0
  go_enter Try.func35, Try.ntmps35
  go_wp2_with fail
  go_quiet (fail)
  go_wp2_with fail
  go_end0
  exact ⟨rfl, (((h.alloc _).drewN _).setPc _).ex, (below_drewN ((Below.refl _ _).alloc hBw _) _).setCell h.hS _⟩
set_option maxRecDepth 100000 in
set_option maxHeartbeats 4000000 in
theorem p9x {w : World} {B S : Nat} {own : Nat → Nat} {cv : Value} {i0 i1 : List Int} {E st : Int} {σ : Mst} {f : Nat → Value} {vl vh vi0 vi1 vc : Value} {g0 g1 : Nat} (h : pm.Mem w B S own cv i0 i1 E st σ f vl vh vi0 vi1 vc g0 g1) (hpc : 0 ≤ σ.pc ∧ σ.pc ≤ 30000) (a : Nat) (n : Int) (ha : a < 8) (h0 : σ.r a ≠ 0) :
    Calls Try.prog 35 #[.pointer (some ⟨S, 0, none⟩), .agg #[.int .i64 9, .int .i64 a, .int .i64 0, .int .i64 0, .int .i64 n]] w (PStep B S cv i0 i1 E st σ w (.ok { σ with pc := σ.pc + 1 })) := by
  have hlt := h.lt
  have c20 := h.cpc
  have f20 := h.blk.frozen 20
  obtain ⟨pc, hpce⟩ : ∃ pc, σ.pc = pc := ⟨_, rfl⟩
  rw [hpce] at hpc c20
  have HP := Lib.hid hpce
  clear hpce
  have hBw : B ≤ w.heap.size := Nat.le_trans h.hS (Nat.le_of_lt hlt)
  have a' : (a : Int) < 8 := by omega
  have cr0 := h.cr a ha
  obtain ⟨ra, hra⟩ : ∃ x, σ.r a = x := ⟨_, rfl⟩
  rw [hra] at h0 cr0
  have HA := Lib.hid hra
  clear hra
  have z : (ra == 0) = false := by simpa using h0
  have H0 := Lib.hid h0
  clear h0
  go_enter Try.func35, Try.ntmps35
  go_wp2_with fail
  go_quiet (fail)
  go_wp2_with fail
  go_end0
  rw [← HP.out]
  exact ⟨rfl, (((h.alloc _).drewN _).setPc _).ex, (below_drewN ((Below.refl _ _).alloc hBw _) _).setCell h.hS _⟩
end mst
end Go.Proofs.Ytpcihajmcejliaa
