/- The walks of the machine's small helpers: must, word, take; of the reference's: load, keep, put. -/
import Derived.Test.YtpcihajmcejliaaProg
import Derived.Test.YtpcihajmcejliaaMachMayB
import Derived.Test.YtpcihajmcejliaaLib
import Derived.Deep.RegionHeld3
import Derived.BigQuiet
import Derived.Deep.QuietTactic
namespace Go.Proofs.Ytpcihajmcejliaa
open Go.RowKit
namespace mw
theorem mixed : Try.prog.follows .mixedOrders = true := by kernel_rfl
def stopV (e : Int) : List PanicEntry := [{ v := .iface 72 (.agg #[.int .i64 e]), recovered := false }]
theorem must_true (e : Int) (w : World) : Calls Try.prog 34 #[.bool true, .int .i64 e] w fun r w' => r = .returned (.tuple #[]) ∧ w = w' := by
  go_enter Try.func34, Try.ntmps34
  go_wp2
  go_end0
  exact ⟨rfl, rfl⟩
theorem must_false (e : Int) (w : World) : Calls Try.prog 34 #[.bool false, .int .i64 e] w fun r w' => r = .panicked (stopV e) ∧ w = w' := by
  go_enter Try.func34, Try.ntmps34
  go_wp2
  exact ⟨rfl, rfl, rfl⟩
set_option maxRecDepth 100000 in
set_option maxHeartbeats 1000000 in
theorem word_ok (S g len cap : Nat) (l : Nat) (op a c n rb : Int) (b : Nat) (w : World) (hS : S < w.heap.size) (hl : l < 2) (hb : b < 8)
    (c1 : w.cell? ⟨S, 7 + b, none⟩ = some (.int .i64 rb)) (c2 : w.cell? ⟨S, 15 + l, none⟩ = some (.slice (some ⟨g, 0, none⟩) len cap))
    (at_ : Int) (hat : Hid (wrap64 (rb + n) = at_)) (h0 : 0 ≤ at_) (h1 : at_ < len) :
    Calls Try.prog 38 #[.pointer (some ⟨S, 0, none⟩), .int .i64 l, .agg #[.int .i64 op, .int .i64 a, .int .i64 b, .int .i64 c, .int .i64 n]] w
      fun r w' => r = .returned (.pointer (some ⟨g, at_.toNat, none⟩)) ∧ ∃ k, (w.alloc (.cells #[.int .i64 op, .int .i64 a, .int .i64 b, .int .i64 c, .int .i64 n] 53)).drewN k = w' := by
  have hb' : (b : Int) < 8 := by omega
  have hl' : (l : Int) < 2 := by omega
  go_enter Try.func38, Try.ntmps38
  go_wp2_with fail
  go_quiet (fail)
  rw [hat.out]
  go_wp2_with fail
  refine (must_true _ _).mono ?_
  rintro e w' ⟨rfl, rfl⟩
  go_wp2_with fail
  go_ret
  exact ⟨rfl, _, rfl⟩
set_option maxRecDepth 100000 in
set_option maxHeartbeats 1000000 in
theorem word_bad (S len cap : Nat) (A : Option Addr) (l : Nat) (op a c n rb : Int) (b : Nat) (w : World) (hS : S < w.heap.size) (hl : l < 2) (hb : b < 8)
    (c1 : w.cell? ⟨S, 7 + b, none⟩ = some (.int .i64 rb)) (c2 : w.cell? ⟨S, 15 + l, none⟩ = some (.slice A len cap))
    (at_ : Int) (hat : Hid (wrap64 (rb + n) = at_)) (h0 : at_ < 0 ∨ len ≤ at_) :
    Calls Try.prog 38 #[.pointer (some ⟨S, 0, none⟩), .int .i64 l, .agg #[.int .i64 op, .int .i64 a, .int .i64 b, .int .i64 c, .int .i64 n]] w
      fun r w' => r = .panicked (stopV 6) ∧ ∃ k, (w.alloc (.cells #[.int .i64 op, .int .i64 a, .int .i64 b, .int .i64 c, .int .i64 n] 53)).drewN k = w' := by
  have hb' : (b : Int) < 8 := by omega
  have hl' : (l : Int) < 2 := by omega
  rcases h0 with h0 | h0
  · have hd : decide (0 ≤ at_) = false := by simp; omega
    go_enter Try.func38, Try.ntmps38
    go_wp2_with fail
    go_quiet (fail)
    rw [hat.out]
    go_wp2_with fail
    refine (must_false _ _).mono ?_
    rintro e w' ⟨rfl, rfl⟩
    go_wp2_with fail
    exact ⟨rfl, rfl, _, rfl⟩
  · have hd : decide (at_ < (len : Int)) = false := by simp; omega
    have hd0 : 0 ≤ at_ := by omega
    have hd1 : ¬ at_ < (len : Int) := by omega
    go_enter Try.func38, Try.ntmps38
    go_wp2_with fail
    go_quiet (fail)
    rw [hat.out]
    go_wp2_with fail
    refine (must_false _ _).mono ?_
    rintro e w' ⟨rfl, rfl⟩
    go_wp2_with fail
    exact ⟨rfl, rfl, _, rfl⟩

set_option maxRecDepth 100000 in
set_option maxHeartbeats 1000000 in
theorem take_ok (S p cap : Nat) (l : Nat) (u : Nat) (x : Int) (g : Nat) (len : Nat) (w : World) (hl : l < 2)
    (c1 : w.cell? ⟨S, p, none⟩ = some (.int .i64 u)) (f1 : w.frozen? ⟨S, p, none⟩ = false) (c2 : w.cell? ⟨S, 17 + l, none⟩ = some (.slice (some ⟨g, 0, none⟩) len cap))
    (hp : p < 17) (hu : u < len) (hg : g ≠ S) (hx : w.cell? ⟨g, u, none⟩ = some (.int .i64 x)) (hlen : len ≤ 9223372036854775807) :
    Calls Try.prog 39 #[.pointer (some ⟨S, 0, none⟩), .int .i64 l, .pointer (some ⟨S, p, none⟩)] w
      fun r w' => r = .returned (.int .i64 x) ∧ ∃ k, (w.setCell ⟨S, p, none⟩ (.int .i64 (u + 1))).drewN k = w' := by
  have hl' : (l : Int) < 2 := by omega
  have hu' : (u : Int) < len := by omega
  go_enter Try.func39, Try.ntmps39
  go_wp2_with fail
  go_quiet ((go_at_call 34; exact Calls.quiet_of_same ((must_true _ _).mono fun _ _ h => ⟨h.1, h.2.symm⟩)))
  go_wp2_with fail
  go_quiet (fail)
  go_wp2_with fail
  go_ret
  rename_i n1
  exact ⟨rfl, n1 + nq, by rw [← World.drewN_drewN]; rfl⟩
set_option maxRecDepth 100000 in
set_option maxHeartbeats 1000000 in
theorem take_bad (S p cap : Nat) (l : Nat) (u : Nat) (A : Option Addr) (len : Nat) (w : World) (hl : l < 2)
    (c1 : w.cell? ⟨S, p, none⟩ = some (.int .i64 u)) (c2 : w.cell? ⟨S, 17 + l, none⟩ = some (.slice A len cap)) (hu : len ≤ u) :
    Calls Try.prog 39 #[.pointer (some ⟨S, 0, none⟩), .int .i64 l, .pointer (some ⟨S, p, none⟩)] w
      fun r w' => r = .panicked (stopV 4) ∧ ∃ k, w.drewN k = w' := by
  have hl' : (l : Int) < 2 := by omega
  have hd : decide (u < len) = false := by simp; omega
  go_enter Try.func39, Try.ntmps39
  go_wp2_with fail
  refine region_tail 11 mixed (by kernel_rfl) ?_
  simp only [List.take_succ_cons, List.take_zero, List.drop_succ_cons, List.drop_zero]
  repeat still_step
  refine wpStill_nil ?_
  go_wp2_with fail
  refine (must_false _ _).mono ?_
  rintro e w' ⟨rfl, rfl⟩
  go_wp2_with fail
  exact ⟨rfl, rfl, 1, rfl⟩
theorem load_ok (g len cap : Nat) (a x : Int) (w : World) (h0 : 0 ≤ a) (h1 : a < len) (hx : w.cell? ⟨g, a.toNat, none⟩ = some (.int .i64 x)) :
    Calls Try.prog 40 #[.slice (some ⟨g, 0, none⟩) len cap, .int .i64 a] w fun r w' => r = .returned (.tuple #[.int .i64 x, .bool true]) ∧ w = w' := by
  obtain ⟨k, rfl⟩ := Int.eq_ofNat_of_zero_le h0
  rw [Int.toNat_natCast] at hx
  go_enter Try.func40, Try.ntmps40
  go_wp2
  go_ret2
  exact ⟨rfl, rfl⟩
theorem load_bad (A : Option Addr) (len cap : Nat) (a : Int) (w : World) (h0 : a < 0 ∨ len ≤ a) :
    Calls Try.prog 40 #[.slice A len cap, .int .i64 a] w fun r w' => r = .returned (.tuple #[.int .i64 0, .bool false]) ∧ w = w' := by
  rcases h0 with h0 | h0
  · go_enter Try.func40, Try.ntmps40
    go_wp2
    go_ret2
    exact ⟨rfl, rfl⟩
  · have hd0 : 0 ≤ a := by omega
    go_enter Try.func40, Try.ntmps40
    go_wp2
    go_ret2
    exact ⟨rfl, rfl⟩
theorem keep_ok (r0 : Int) (g len cap : Nat) (a x : Int) (w : World) (h0 : 0 ≤ a) (h1 : a < len) (hx : w.cell? ⟨g, a.toNat, none⟩ = some (.int .i64 x)) :
    Calls Try.prog 36 #[.int .i64 r0, .slice (some ⟨g, 0, none⟩) len cap, .int .i64 a] w fun r w' => r = .returned (.tuple #[.int .i64 x, .bool true]) ∧ w = w' := by
  have HC := Lib.hid (load_ok g len cap a x w h0 h1 hx)
  clear h0 h1 hx
  go_enter Try.func36, Try.ntmps36
  go_wp2_with fail
  refine HC.out.mono ?_
  rintro e w' ⟨rfl, rfl⟩
  go_wp2_with fail
  go_ret2
  exact ⟨rfl, rfl⟩
theorem keep_bad (r0 : Int) (A : Option Addr) (len cap : Nat) (a : Int) (w : World) (h0 : a < 0 ∨ len ≤ a) :
    Calls Try.prog 36 #[.int .i64 r0, .slice A len cap, .int .i64 a] w fun r w' => r = .returned (.tuple #[.int .i64 r0, .bool false]) ∧ w = w' := by
  have HC := Lib.hid (load_bad A len cap a w h0)
  clear h0
  go_enter Try.func36, Try.ntmps36
  go_wp2_with fail
  refine HC.out.mono ?_
  rintro e w' ⟨rfl, rfl⟩
  go_wp2_with fail
  go_ret2
  exact ⟨rfl, rfl⟩
theorem put_ok (g len cap : Nat) (a v : Int) (x : Value) (w : World) (h0 : 0 ≤ a) (h1 : a < len) (hx : w.cell? ⟨g, a.toNat, none⟩ = some x) (hf : w.frozen? ⟨g, a.toNat, none⟩ = false) :
    Calls Try.prog 37 #[.slice (some ⟨g, 0, none⟩) len cap, .int .i64 a, .int .i64 v] w fun r w' => r = .returned (.bool true) ∧ w.setCell ⟨g, a.toNat, none⟩ (.int .i64 v) = w' := by
  obtain ⟨k, rfl⟩ := Int.eq_ofNat_of_zero_le h0
  rw [Int.toNat_natCast] at hx hf
  go_enter Try.func37, Try.ntmps37
  go_wp2
  go_ret
  exact ⟨rfl, rfl⟩
theorem put_bad (A : Option Addr) (len cap : Nat) (a v : Int) (w : World) (h0 : a < 0 ∨ len ≤ a) :
    Calls Try.prog 37 #[.slice A len cap, .int .i64 a, .int .i64 v] w fun r w' => r = .returned (.bool false) ∧ w = w' := by
  rcases h0 with h0 | h0
  · go_enter Try.func37, Try.ntmps37
    go_wp2
    go_ret
    exact ⟨rfl, rfl⟩
  · have hd0 : 0 ≤ a := by omega
    go_enter Try.func37, Try.ntmps37
    go_wp2
    go_ret
    exact ⟨rfl, rfl⟩
end mw
end Go.Proofs.Ytpcihajmcejliaa
