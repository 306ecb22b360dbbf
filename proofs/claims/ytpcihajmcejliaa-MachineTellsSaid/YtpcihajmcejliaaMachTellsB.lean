/- The walk of the law MachineTells, but for the machine's own run. The walk of the law MachineTells where the image may be and runs. The law MachineTells: whatever the image, the inputs and the fuel, the call returns true. -/
import Derived.Test.YtpcihajmcejliaaMachRunP
import Derived.Test.YtpcihajmcejliaaMachShowB
import Derived.Test.YtpcihajmcejliaaMachRunQ
import Derived.Test.YtpcihajmcejliaaMachLen
namespace Go.Proofs.Ytpcihajmcejliaa
open Go.RowKit
open mst
namespace mst
theorem shown_zero (w : World) : Calls Try.prog 15 #[.agg #[.int .i64 0, .slice none 0 0, .slice none 0 0, .int .i64 0, .int .i64 0, .int .i64 0], .agg #[.int .i64 0, .slice none 0 0, .slice none 0 0, .int .i64 0, .int .i64 0, .int .i64 0]] w (BoolPost true w) := by
  have h : ShownAt w 0 (.agg #[.int .i64 0, .slice none 0 0, .slice none 0 0, .int .i64 0, .int .i64 0, .int .i64 0]) 0 0 0 0 [] [] := ⟨_, _, rfl, ⟨none, 0, rfl, fun k hk => absurd hk (Nat.not_lt_zero _)⟩, ⟨none, 0, rfl, fun k hk => absurd hk (Nat.not_lt_zero _)⟩⟩
  have := shown_any w 0 (Nat.zero_le _) h h (by decide) (by decide)
  exact this
/-- the image's box lies where it lay -/
theorem box_head {w w1 : World} {v : Value} {lo hi : Int} (hb : Below (w.alloc (.cells #[v, .int .i64 lo, .int .i64 hi] 30)).heap.size (w.alloc (.cells #[v, .int .i64 lo, .int .i64 hi] 30)) w1) :
    Blk w1 w.heap.size #[v, .int .i64 lo, .int .i64 hi] 30 ∧ w.heap.size < w1.heap.size ∧ Below w.heap.size w w1 := by
  have hs := hb.size
  refine ⟨Blk.ext (Blk.made w _ _) (Below.toExt hb), by simp at hs; omega, ((Below.refl _ _).alloc (Nat.le_refl _) _).trans (hb.mono (by simp))⟩
theorem box_next {w w1 w2 : World} {c : Array Value} {T : TypeId} (h : Blk w1 w.heap.size c T ∧ w.heap.size < w1.heap.size ∧ Below w.heap.size w w1) (hb : Below w1.heap.size w1 w2) : Blk w2 w.heap.size c T ∧ w.heap.size < w2.heap.size ∧ Below w.heap.size w w2 :=
  ⟨Blk.ext h.1 (Below.toExt hb), by have := hb.size; omega, h.2.2.trans (hb.mono (by omega))⟩
set_option maxRecDepth 100000 in
set_option maxHeartbeats 8000000 in
theorem tells_early (v : Value) (code : List Ins) (lo hi : Int) (v0 v1 : Value) (fuel : Int) (w : World) (hv : CodeAt w v code) (A0 A1 : Option Addr) (n0 n1 c0 c1 : Nat) (e0 : v0 = .slice A0 n0 c0) (e1 : v1 = .slice A1 n1 c1) (hmay : mayB code lo hi = true) (hf0 : 5000 < fuel) (hf1 : fuel ≤ 90000) :
    Calls Try.prog 6 #[.agg #[v, .int .i64 lo, .int .i64 hi], v0, v1, .int .i64 fuel] w fun e w' => e = .returned (.bool true) ∧ Below w.heap.size w w' := by
  have HM := Lib.hid (fun w' (hb : Below w.heap.size w w') => cmay_any v code lo hi w' (hv.below hb (Nat.le_refl _)))
  have HRM := Lib.hid (fun w' (hb : Below w.heap.size w w') => crmay_any v code lo hi w' (hv.below hb (Nat.le_refl _)))
  have HV := Lib.hid hv
  obtain ⟨A, n, c, rfl⟩ := hv.isSlice
  rw [hmay] at HM HRM
  clear hv
  clear hmay
  subst e0
  subst e1
  have HB0 := Lib.hid ((Below.refl w.heap.size w).alloc (Nat.le_refl _) (.cells #[.slice A n c, .int .i64 lo, .int .i64 hi] 30))
  go_enter Try.func6, Try.ntmps6
  go_wp2_with (first | (go_at_call 12; refine (HM.out _ HB0.out).mono ?_; rintro e w1 ⟨rfl, hb1⟩; have hk1 := box_head hb1; have HB1 := Lib.hid hk1; obtain ⟨hK1, hL1, -⟩ := hk1; have hKc1 := hK1.cell; clear hb1 hK1) | (go_at_call 13; refine (HRM.out _ HB1.out.2.2).mono ?_; rintro e w2 ⟨rfl, hb2⟩; have hk2 := box_next HB1.out hb2; have HB2 := Lib.hid hk2; obtain ⟨hK2, hL2, -⟩ := hk2; have hKc2 := hK2.cell; clear hb2 hK2))
  go_ret
  exact ⟨rfl, HB2.out.2.2⟩
set_option maxRecDepth 100000 in
set_option maxHeartbeats 8000000 in
theorem tells_early2 (v : Value) (code : List Ins) (lo hi : Int) (v0 v1 : Value) (fuel : Int) (w : World) (hv : CodeAt w v code) (A0 A1 : Option Addr) (n0 n1 c0 c1 : Nat) (e0 : v0 = .slice A0 n0 c0) (e1 : v1 = .slice A1 n1 c1) (hmay : mayB code lo hi = false) (hf0 : 5000 < fuel) (hf1 : fuel ≤ 90000) :
    Calls Try.prog 6 #[.agg #[v, .int .i64 lo, .int .i64 hi], v0, v1, .int .i64 fuel] w fun e w' => e = .returned (.bool true) ∧ Below w.heap.size w w' := by
  have HM := Lib.hid (fun w' (hb : Below w.heap.size w w') => cmay_any v code lo hi w' (hv.below hb (Nat.le_refl _)))
  have HRM := Lib.hid (fun w' (hb : Below w.heap.size w w') => crmay_any v code lo hi w' (hv.below hb (Nat.le_refl _)))
  have HV := Lib.hid hv
  obtain ⟨A, n, c, rfl⟩ := hv.isSlice
  rw [hmay] at HM HRM
  clear hv
  clear hmay
  subst e0
  subst e1
  have HB0 := Lib.hid ((Below.refl w.heap.size w).alloc (Nat.le_refl _) (.cells #[.slice A n c, .int .i64 lo, .int .i64 hi] 30))
  go_enter Try.func6, Try.ntmps6
  go_wp2_with (first | (go_at_call 12; refine (HM.out _ HB0.out).mono ?_; rintro e w1 ⟨rfl, hb1⟩; have hk1 := box_head hb1; have HB1 := Lib.hid hk1; obtain ⟨hK1, hL1, -⟩ := hk1; have hKc1 := hK1.cell; clear hb1 hK1) | (go_at_call 13; refine (HRM.out _ HB1.out.2.2).mono ?_; rintro e w2 ⟨rfl, hb2⟩; have hk2 := box_next HB1.out hb2; have HB2 := Lib.hid hk2; obtain ⟨hK2, hL2, -⟩ := hk2; have hKc2 := hK2.cell; clear hb2 hK2))
  go_ret
  exact ⟨rfl, HB2.out.2.2⟩
set_option maxRecDepth 100000 in
set_option maxHeartbeats 8000000 in
theorem tells_form1 (v : Value) (code : List Ins) (lo hi : Int) (v0 v1 : Value) (fuel : Int) (w : World) (hv : CodeAt w v code) (A0 A1 : Option Addr) (n0 n1 c0 c1 : Nat) (e0 : v0 = .slice A0 n0 c0) (e1 : v1 = .slice A1 n1 c1) (hmay : mayB code lo hi = false) (hf : fuel ≤ 5000) :
    Calls Try.prog 6 #[.agg #[v, .int .i64 lo, .int .i64 hi], v0, v1, .int .i64 fuel] w fun e w' => e = .returned (.bool true) ∧ Below w.heap.size w w' := by
  have HM := Lib.hid (fun w' (hb : Below w.heap.size w w') => cmay_any v code lo hi w' (hv.below hb (Nat.le_refl _)))
  have HRM := Lib.hid (fun w' (hb : Below w.heap.size w w') => crmay_any v code lo hi w' (hv.below hb (Nat.le_refl _)))
  have HV := Lib.hid hv
  obtain ⟨A, n, c, rfl⟩ := hv.isSlice
  rw [hmay] at HM HRM
  clear hv
  have hf0 : ¬ 5000 < fuel := by omega
  have HRUN := Lib.hid (fun w' (hb : Below w.heap.size w w') => run_form _ code lo hi v0 v1 fuel w' (HV.out.below hb (Nat.le_refl _)) hmay)
  unfold zeroShown at HRUN
  clear hmay
  subst e0
  subst e1
  have HB0 := Lib.hid ((Below.refl w.heap.size w).alloc (Nat.le_refl _) (.cells #[.slice A n c, .int .i64 lo, .int .i64 hi] 30))
  go_enter Try.func6, Try.ntmps6
  go_wp2_with (first | (go_at_call 12; refine (HM.out _ HB0.out).mono ?_; rintro e w1 ⟨rfl, hb1⟩; have hk1 := box_head hb1; have HB1 := Lib.hid hk1; obtain ⟨hK1, hL1, -⟩ := hk1; have hKc1 := hK1.cell; clear hb1 hK1) | (go_at_call 13; refine (HRM.out _ HB1.out.2.2).mono ?_; rintro e w2 ⟨rfl, hb2⟩; have hk2 := box_next HB1.out hb2; have HB2 := Lib.hid hk2; obtain ⟨hK2, hL2, -⟩ := hk2; have hKc2 := hK2.cell; clear hb2 hK2) | (go_at_call 14; refine (HRUN.out _ HB2.out.2.2).mono ?_; rintro e w3 ⟨rfl, hb3⟩; have HB3 := Lib.hid (box_next HB2.out hb3); clear hb3) | (go_at_call 15; refine (shown_zero _).mono ?_; rintro e w4 ⟨rfl, hb4⟩; have HB4 := Lib.hid hb4; clear hb4))
  go_ret
  exact ⟨rfl, HB3.out.2.2.trans ((((Below.refl _ _).alloc (Nat.le_refl _) _).trans (HB4.out.mono (by simp))).mono (Nat.le_of_lt HB3.out.2.1))⟩
set_option maxRecDepth 100000 in
set_option maxHeartbeats 8000000 in
theorem tells_form2 (v : Value) (code : List Ins) (lo hi : Int) (v0 v1 : Value) (fuel : Int) (w : World) (hv : CodeAt w v code) (A0 A1 : Option Addr) (n0 n1 c0 c1 : Nat) (e0 : v0 = .slice A0 n0 c0) (e1 : v1 = .slice A1 n1 c1) (hmay : mayB code lo hi = false) (hf : 90000 < fuel) :
    Calls Try.prog 6 #[.agg #[v, .int .i64 lo, .int .i64 hi], v0, v1, .int .i64 fuel] w fun e w' => e = .returned (.bool true) ∧ Below w.heap.size w w' := by
  have HM := Lib.hid (fun w' (hb : Below w.heap.size w w') => cmay_any v code lo hi w' (hv.below hb (Nat.le_refl _)))
  have HRM := Lib.hid (fun w' (hb : Below w.heap.size w w') => crmay_any v code lo hi w' (hv.below hb (Nat.le_refl _)))
  have HV := Lib.hid hv
  obtain ⟨A, n, c, rfl⟩ := hv.isSlice
  rw [hmay] at HM HRM
  clear hv
  have hf0 : 5000 < fuel := by omega
  have hf1 : ¬ fuel ≤ 90000 := by omega
  have HRUN := Lib.hid (fun w' (hb : Below w.heap.size w w') => run_form _ code lo hi v0 v1 fuel w' (HV.out.below hb (Nat.le_refl _)) hmay)
  unfold zeroShown at HRUN
  clear hmay
  subst e0
  subst e1
  have HB0 := Lib.hid ((Below.refl w.heap.size w).alloc (Nat.le_refl _) (.cells #[.slice A n c, .int .i64 lo, .int .i64 hi] 30))
  go_enter Try.func6, Try.ntmps6
  go_wp2_with (first | (go_at_call 12; refine (HM.out _ HB0.out).mono ?_; rintro e w1 ⟨rfl, hb1⟩; have hk1 := box_head hb1; have HB1 := Lib.hid hk1; obtain ⟨hK1, hL1, -⟩ := hk1; have hKc1 := hK1.cell; clear hb1 hK1) | (go_at_call 13; refine (HRM.out _ HB1.out.2.2).mono ?_; rintro e w2 ⟨rfl, hb2⟩; have hk2 := box_next HB1.out hb2; have HB2 := Lib.hid hk2; obtain ⟨hK2, hL2, -⟩ := hk2; have hKc2 := hK2.cell; clear hb2 hK2) | (go_at_call 14; refine (HRUN.out _ HB2.out.2.2).mono ?_; rintro e w3 ⟨rfl, hb3⟩; have HB3 := Lib.hid (box_next HB2.out hb3); clear hb3) | (go_at_call 15; refine (shown_zero _).mono ?_; rintro e w4 ⟨rfl, hb4⟩; have HB4 := Lib.hid hb4; clear hb4))
  go_ret
  exact ⟨rfl, HB3.out.2.2.trans ((((Below.refl _ _).alloc (Nat.le_refl _) _).trans (HB4.out.mono (by simp))).mono (Nat.le_of_lt HB3.out.2.1))⟩
set_option maxRecDepth 100000 in
set_option maxHeartbeats 8000000 in
theorem tells_range1 (v : Value) (code : List Ins) (lo hi : Int) (v0 v1 : Value) (fuel : Int) (w : World) (hv : CodeAt w v code) (A0 A1 : Option Addr) (n0 n1 c0 c1 : Nat) (e0 : v0 = .slice A0 n0 c0) (e1 : v1 = .slice A1 n1 c1) (hmay : mayB code lo hi = true) (hf : fuel < 0) :
    Calls Try.prog 6 #[.agg #[v, .int .i64 lo, .int .i64 hi], v0, v1, .int .i64 fuel] w fun e w' => e = .returned (.bool true) ∧ Below w.heap.size w w' := by
  have HM := Lib.hid (fun w' (hb : Below w.heap.size w w') => cmay_any v code lo hi w' (hv.below hb (Nat.le_refl _)))
  have HRM := Lib.hid (fun w' (hb : Below w.heap.size w w') => crmay_any v code lo hi w' (hv.below hb (Nat.le_refl _)))
  have HV := Lib.hid hv
  obtain ⟨A, n, c, rfl⟩ := hv.isSlice
  rw [hmay] at HM HRM
  clear hv
  have hf0 : ¬ 5000 < fuel := by omega
  have HRUN := Lib.hid (fun w' (hb : Below w.heap.size w w') => run_range1 _ code lo hi v0 v1 fuel w' (HV.out.below hb (Nat.le_refl _)) hmay hf)
  unfold zeroShown at HRUN
  clear hmay
  subst e0
  subst e1
  have HB0 := Lib.hid ((Below.refl w.heap.size w).alloc (Nat.le_refl _) (.cells #[.slice A n c, .int .i64 lo, .int .i64 hi] 30))
  go_enter Try.func6, Try.ntmps6
  go_wp2_with (first | (go_at_call 12; refine (HM.out _ HB0.out).mono ?_; rintro e w1 ⟨rfl, hb1⟩; have hk1 := box_head hb1; have HB1 := Lib.hid hk1; obtain ⟨hK1, hL1, -⟩ := hk1; have hKc1 := hK1.cell; clear hb1 hK1) | (go_at_call 13; refine (HRM.out _ HB1.out.2.2).mono ?_; rintro e w2 ⟨rfl, hb2⟩; have hk2 := box_next HB1.out hb2; have HB2 := Lib.hid hk2; obtain ⟨hK2, hL2, -⟩ := hk2; have hKc2 := hK2.cell; clear hb2 hK2) | (go_at_call 14; refine (HRUN.out _ HB2.out.2.2).mono ?_; rintro e w3 ⟨rfl, hb3⟩; have HB3 := Lib.hid (box_next HB2.out hb3); clear hb3) | (go_at_call 15; refine (shown_zero _).mono ?_; rintro e w4 ⟨rfl, hb4⟩; have HB4 := Lib.hid hb4; clear hb4))
  go_ret
  exact ⟨rfl, HB3.out.2.2.trans ((((Below.refl _ _).alloc (Nat.le_refl _) _).trans (HB4.out.mono (by simp))).mono (Nat.le_of_lt HB3.out.2.1))⟩
set_option maxRecDepth 100000 in
set_option maxHeartbeats 8000000 in
theorem tells_range2 (v : Value) (code : List Ins) (lo hi : Int) (v0 v1 : Value) (fuel : Int) (w : World) (hv : CodeAt w v code) (A0 A1 : Option Addr) (n0 n1 c0 c1 : Nat) (e0 : v0 = .slice A0 n0 c0) (e1 : v1 = .slice A1 n1 c1) (hmay : mayB code lo hi = true) (hf : 90000 < fuel) :
    Calls Try.prog 6 #[.agg #[v, .int .i64 lo, .int .i64 hi], v0, v1, .int .i64 fuel] w fun e w' => e = .returned (.bool true) ∧ Below w.heap.size w w' := by
  have HM := Lib.hid (fun w' (hb : Below w.heap.size w w') => cmay_any v code lo hi w' (hv.below hb (Nat.le_refl _)))
  have HRM := Lib.hid (fun w' (hb : Below w.heap.size w w') => crmay_any v code lo hi w' (hv.below hb (Nat.le_refl _)))
  have HV := Lib.hid hv
  obtain ⟨A, n, c, rfl⟩ := hv.isSlice
  rw [hmay] at HM HRM
  clear hv
  have hf0 : 5000 < fuel := by omega
  have hf1 : ¬ fuel ≤ 90000 := by omega
  have hf2 : ¬ fuel < 0 := by omega
  have HRUN := Lib.hid (fun w' (hb : Below w.heap.size w w') => run_range2 _ code lo hi v0 v1 fuel w' (HV.out.below hb (Nat.le_refl _)) hmay hf)
  unfold zeroShown at HRUN
  clear hmay
  subst e0
  subst e1
  have HB0 := Lib.hid ((Below.refl w.heap.size w).alloc (Nat.le_refl _) (.cells #[.slice A n c, .int .i64 lo, .int .i64 hi] 30))
  go_enter Try.func6, Try.ntmps6
  go_wp2_with (first | (go_at_call 12; refine (HM.out _ HB0.out).mono ?_; rintro e w1 ⟨rfl, hb1⟩; have hk1 := box_head hb1; have HB1 := Lib.hid hk1; obtain ⟨hK1, hL1, -⟩ := hk1; have hKc1 := hK1.cell; clear hb1 hK1) | (go_at_call 13; refine (HRM.out _ HB1.out.2.2).mono ?_; rintro e w2 ⟨rfl, hb2⟩; have hk2 := box_next HB1.out hb2; have HB2 := Lib.hid hk2; obtain ⟨hK2, hL2, -⟩ := hk2; have hKc2 := hK2.cell; clear hb2 hK2) | (go_at_call 14; refine (HRUN.out _ HB2.out.2.2).mono ?_; rintro e w3 ⟨rfl, hb3⟩; have HB3 := Lib.hid (box_next HB2.out hb3); clear hb3) | (go_at_call 15; refine (shown_zero _).mono ?_; rintro e w4 ⟨rfl, hb4⟩; have HB4 := Lib.hid hb4; clear hb4))
  go_ret
  exact ⟨rfl, HB3.out.2.2.trans ((((Below.refl _ _).alloc (Nat.le_refl _) _).trans (HB4.out.mono (by simp))).mono (Nat.le_of_lt HB3.out.2.1))⟩
set_option maxRecDepth 100000 in
set_option maxHeartbeats 8000000 in
theorem tells_size1 (v : Value) (code : List Ins) (lo hi : Int) (v0 v1 : Value) (fuel : Int) (w : World) (hv : CodeAt w v code) (A0 A1 : Option Addr) (n0 n1 c0 c1 : Nat) (e0 : v0 = .slice A0 n0 c0) (e1 : v1 = .slice A1 n1 c1) (hmay : mayB code lo hi = true) (hf0 : 0 ≤ fuel) (hf1 : fuel ≤ 5000) (hn : 1000 < n0) :
    Calls Try.prog 6 #[.agg #[v, .int .i64 lo, .int .i64 hi], v0, v1, .int .i64 fuel] w fun e w' => e = .returned (.bool true) ∧ Below w.heap.size w w' := by
  have HM := Lib.hid (fun w' (hb : Below w.heap.size w w') => cmay_any v code lo hi w' (hv.below hb (Nat.le_refl _)))
  have HRM := Lib.hid (fun w' (hb : Below w.heap.size w w') => crmay_any v code lo hi w' (hv.below hb (Nat.le_refl _)))
  have HV := Lib.hid hv
  obtain ⟨A, n, c, rfl⟩ := hv.isSlice
  rw [hmay] at HM HRM
  clear hv
  have hf2 : ¬ 5000 < fuel := by omega
  have hf3 : ¬ fuel < 0 := by omega
  have hf4 : ¬ 90000 < fuel := by omega
  have hn2 : (1000 : Int) < (n0 : Int) := by omega
  have HRUN := Lib.hid (fun w' (hb : Below w.heap.size w w') => run_size1 _ code lo hi v0 v1 fuel w' (HV.out.below hb (Nat.le_refl _)) hmay hf0 (by omega) A0 A1 n0 n1 c0 c1 e0 e1 hn)
  unfold zeroShown at HRUN
  clear hmay
  subst e0
  subst e1
  have HB0 := Lib.hid ((Below.refl w.heap.size w).alloc (Nat.le_refl _) (.cells #[.slice A n c, .int .i64 lo, .int .i64 hi] 30))
  go_enter Try.func6, Try.ntmps6
  go_wp2_with (first | (go_at_call 12; refine (HM.out _ HB0.out).mono ?_; rintro e w1 ⟨rfl, hb1⟩; have hk1 := box_head hb1; have HB1 := Lib.hid hk1; obtain ⟨hK1, hL1, -⟩ := hk1; have hKc1 := hK1.cell; clear hb1 hK1) | (go_at_call 13; refine (HRM.out _ HB1.out.2.2).mono ?_; rintro e w2 ⟨rfl, hb2⟩; have hk2 := box_next HB1.out hb2; have HB2 := Lib.hid hk2; obtain ⟨hK2, hL2, -⟩ := hk2; have hKc2 := hK2.cell; clear hb2 hK2) | (go_at_call 14; refine (HRUN.out _ HB2.out.2.2).mono ?_; rintro e w3 ⟨rfl, hb3⟩; have HB3 := Lib.hid (box_next HB2.out hb3); clear hb3) | (go_at_call 15; refine (shown_zero _).mono ?_; rintro e w4 ⟨rfl, hb4⟩; have HB4 := Lib.hid hb4; clear hb4))
  go_ret
  exact ⟨rfl, HB3.out.2.2.trans ((((Below.refl _ _).alloc (Nat.le_refl _) _).trans (HB4.out.mono (by simp))).mono (Nat.le_of_lt HB3.out.2.1))⟩
set_option maxRecDepth 100000 in
set_option maxHeartbeats 8000000 in
theorem tells_size2 (v : Value) (code : List Ins) (lo hi : Int) (v0 v1 : Value) (fuel : Int) (w : World) (hv : CodeAt w v code) (A0 A1 : Option Addr) (n0 n1 c0 c1 : Nat) (e0 : v0 = .slice A0 n0 c0) (e1 : v1 = .slice A1 n1 c1) (hmay : mayB code lo hi = true) (hf0 : 0 ≤ fuel) (hf1 : fuel ≤ 5000) (hn : ¬ 1000 < n0) (hm : 1000 < n1) :
    Calls Try.prog 6 #[.agg #[v, .int .i64 lo, .int .i64 hi], v0, v1, .int .i64 fuel] w fun e w' => e = .returned (.bool true) ∧ Below w.heap.size w w' := by
  have HM := Lib.hid (fun w' (hb : Below w.heap.size w w') => cmay_any v code lo hi w' (hv.below hb (Nat.le_refl _)))
  have HRM := Lib.hid (fun w' (hb : Below w.heap.size w w') => crmay_any v code lo hi w' (hv.below hb (Nat.le_refl _)))
  have HV := Lib.hid hv
  obtain ⟨A, n, c, rfl⟩ := hv.isSlice
  rw [hmay] at HM HRM
  clear hv
  have hf2 : ¬ 5000 < fuel := by omega
  have hf3 : ¬ fuel < 0 := by omega
  have hf4 : ¬ 90000 < fuel := by omega
  have hn2 : ¬ (1000 : Int) < (n0 : Int) := by omega
  have hm2 : (1000 : Int) < (n1 : Int) := by omega
  have HRUN := Lib.hid (fun w' (hb : Below w.heap.size w w') => run_size2 _ code lo hi v0 v1 fuel w' (HV.out.below hb (Nat.le_refl _)) hmay hf0 (by omega) A0 A1 n0 n1 c0 c1 e0 e1 hn hm)
  unfold zeroShown at HRUN
  clear hmay
  subst e0
  subst e1
  have HB0 := Lib.hid ((Below.refl w.heap.size w).alloc (Nat.le_refl _) (.cells #[.slice A n c, .int .i64 lo, .int .i64 hi] 30))
  go_enter Try.func6, Try.ntmps6
  go_wp2_with (first | (go_at_call 12; refine (HM.out _ HB0.out).mono ?_; rintro e w1 ⟨rfl, hb1⟩; have hk1 := box_head hb1; have HB1 := Lib.hid hk1; obtain ⟨hK1, hL1, -⟩ := hk1; have hKc1 := hK1.cell; clear hb1 hK1) | (go_at_call 13; refine (HRM.out _ HB1.out.2.2).mono ?_; rintro e w2 ⟨rfl, hb2⟩; have hk2 := box_next HB1.out hb2; have HB2 := Lib.hid hk2; obtain ⟨hK2, hL2, -⟩ := hk2; have hKc2 := hK2.cell; clear hb2 hK2) | (go_at_call 14; refine (HRUN.out _ HB2.out.2.2).mono ?_; rintro e w3 ⟨rfl, hb3⟩; have HB3 := Lib.hid (box_next HB2.out hb3); clear hb3) | (go_at_call 15; refine (shown_zero _).mono ?_; rintro e w4 ⟨rfl, hb4⟩; have HB4 := Lib.hid hb4; clear hb4))
  go_ret
  exact ⟨rfl, HB3.out.2.2.trans ((((Below.refl _ _).alloc (Nat.le_refl _) _).trans (HB4.out.mono (by simp))).mono (Nat.le_of_lt HB3.out.2.1))⟩
end mst
end Go.Proofs.Ytpcihajmcejliaa
namespace Go.Proofs.Ytpcihajmcejliaa
open Go.RowKit
open mst
/-- the reference's machine, at its end: what is shown, and its words -/
theorem rmem_ends {w : World} {B S : Nat} {i0 i1 : List Int} {E st : Int} {σ : Mst} (h : RMem w B S i0 i1 E st σ) : ∃ Al nl cl Ah nh ch g0 g1, w.cell? ⟨S, 0, none⟩ = some (.int .i64 E) ∧ w.cell? ⟨S, 1, none⟩ = some (.slice Al nl cl) ∧ w.cell? ⟨S, 2, none⟩ = some (.slice Ah nh ch) ∧ w.cell? ⟨S, 3, none⟩ = some (.int .i64 σ.u0) ∧ w.cell? ⟨S, 4, none⟩ = some (.int .i64 σ.u1) ∧ w.cell? ⟨S, 5, none⟩ = some (.int .i64 st) ∧
    w.cell? ⟨S, 7, none⟩ = some (.slice (some ⟨g0, 0, none⟩) σ.lo.length σ.lo.length) ∧ w.cell? ⟨S, 8, none⟩ = some (.slice (some ⟨g1, 0, none⟩) σ.hi.length σ.hi.length) ∧ InB w w.heap.size (.slice Al nl cl) σ.o0 ∧ InB w w.heap.size (.slice Ah nh ch) σ.o1 ∧ InB w w.heap.size (.slice (some ⟨g0, 0, none⟩) σ.lo.length σ.lo.length) σ.lo ∧ InB w w.heap.size (.slice (some ⟨g1, 0, none⟩) σ.hi.length σ.hi.length) σ.hi := by
  obtain ⟨own, f, vl, vh, vi0, vi1, vc, g0, g1, gr, h⟩ := h
  obtain ⟨Al, nl, cl, rfl⟩ := h.ol.isSlice
  obtain ⟨Ah, nh, ch, rfl⟩ := h.oh.isSlice
  have c0 := h.blk.cell (i := 0) (by decide)
  rw [h.fs.en] at c0
  have c5 := h.blk.cell (i := 5) (by decide)
  rw [h.fs.st] at c5
  have hr := Chg.refl (fun _ => False) w
  exact ⟨Al, nl, cl, Ah, nh, ch, g0, g1, c0, h.clw, h.chg, h.cu0, h.cu1, c5, h.cw0, h.cw1, (out_inR h.ol).keep hr (fun _ _ _ h => h), (out_inR h.oh).keep hr (fun _ _ _ h => h), (words_inR h.lo).keep hr (fun _ _ _ h => h), (words_inR h.hi).keep hr (fun _ _ _ h => h)⟩
namespace mst
set_option maxRecDepth 100000 in
set_option maxHeartbeats 16000000 in
theorem tells_ok (b off cap : Nat) (code : List Ins) (lo hi : Nat) (v0 v1 : Value) (i0 i1 : List Int) (fuel : Nat) (w : World) (hv : Orders w b off code) (hb : b < w.heap.size) (hmay : mayB code lo hi = true) (hok : ∀ i ∈ code, okI i.n) (hf : fuel ≤ 5000) (q0 : InB w w.heap.size v0 i0) (q1 : InB w w.heap.size v1 i1) (k0 : ∀ x ∈ i0, okI x) (k1 : ∀ x ∈ i1, okI x) (hl0 : i0.length ≤ 1000) (hl1 : i1.length ≤ 1000) (hbig : code.length ≤ 9223372036854775807) :
    Calls Try.prog 6 #[.agg #[.slice (some ⟨b, off, none⟩) code.length cap, .int .i64 lo, .int .i64 hi], v0, v1, .int .i64 fuel] w fun e w' => e = .returned (.bool true) ∧ Below w.heap.size w w' := by
  have hv' : OrdersAt w (.slice (some ⟨b, off, none⟩) code.length cap) code := .inr ⟨b, off, cap, rfl, hb, hbig, hv⟩
  have HM := Lib.hid (fun w' (hb2 : Below w.heap.size w w') => may_any _ code lo hi w' (hv'.below hb2 (Nat.le_refl _)))
  have HRM := Lib.hid (fun w' (hb2 : Below w.heap.size w w') => rmay_any _ code lo hi w' (hv'.below hb2 (Nat.le_refl _)))
  have HRUN := Lib.hid (fun w' (hb2 : Below w.heap.size w w') => run_ok b off cap code lo hi v0 v1 i0 i1 fuel w' (hv.below hb2 hb) (Nat.lt_of_lt_of_le hb hb2.size) hmay hok hf (q0.mono hb2 hb2.size) (q1.mono hb2 hb2.size) k0 k1 hl0 hl1 hbig)
  have HGO := Lib.hid (fun w' (hb2 : Below w.heap.size w w') => go_some b off cap code lo hi v0 v1 i0 i1 fuel w' (hv.below hb2 hb) (Nat.lt_of_lt_of_le hb hb2.size) hmay hok hf (q0.mono hb2 hb2.size) (q1.mono hb2 hb2.size) k0 k1 (by omega) (by omega))
  have hlen := run_len code i0 i1 fuel (zeroM lo hi)
  have hgd : Good code.length (0 + fuel) (runF code i0 i1 fuel (zeroM lo hi)).2.2 := run_good code i0 i1 (fun i hi' => ⟨by
    simp only [mayB, Bool.and_eq_true, List.all_eq_true] at hmay
    exact hmay.2 i hi', hok i hi'⟩) k0 k1 fuel 0 _ (good_start _ _ _)
  have hmm := hmay
  simp only [mayB, Bool.and_eq_true, decide_eq_true_eq] at hmm
  have hlo : lo ≤ 20000 := by omega
  have hhi : hi ≤ 20000 := by omega
  rw [hmay] at HM HRM
  generalize hR : (runF code i0 i1 fuel (zeroM lo hi)) = R at HRUN HGO hlen hgd
  have hz0 : R.2.2.lo.length ≤ 9223372036854775807 := by rw [hlen.1]; simp [zeroM]; omega
  have hz1 : R.2.2.hi.length ≤ 9223372036854775807 := by rw [hlen.2]; simp [zeroM]; omega
  have ho0 : R.2.2.o0.length ≤ 9223372036854775807 := by have := hgd.o0; omega
  have ho1 : R.2.2.o1.length ≤ 9223372036854775807 := by have := hgd.o1; omega
  have HLE := Lib.hid (And.intro hz0 (And.intro hz1 (And.intro ho0 ho1)))
  obtain ⟨A0, d0, hv0⟩ := q0.len
  obtain ⟨A1, d1, hv1⟩ := q1.len
  have hn0 : ¬ (1000 : Int) < (i0.length : Int) := by omega
  have hn1 : ¬ (1000 : Int) < (i1.length : Int) := by omega
  clear hv hv' hmay hok q0 q1 k0 k1 hl0 hl1 hlen hgd hmm hR hz0 hz1 ho0 ho1
  generalize code.length = n at *
  generalize i0.length = m0 at *
  generalize i1.length = m1 at *
  subst hv0
  subst hv1
  have hf0 : ¬ (5000 : Int) < (fuel : Int) := by omega
  have hf2 : ¬ (fuel : Int) < 0 := by omega
  have hf3 : ¬ (90000 : Int) < (fuel : Int) := by omega
  have HB0 := Lib.hid ((Below.refl w.heap.size w).alloc (Nat.le_refl _) (.cells #[.slice (some ⟨b, off, none⟩) n cap, .int .i64 lo, .int .i64 hi] 30))
  go_enter Try.func6, Try.ntmps6
  go_upto_region 17 with (first | (go_at_call 12; refine (HM.out _ HB0.out).mono ?_; rintro e w1 ⟨rfl, hb1⟩; have hk1 := box_head hb1; have HB1 := Lib.hid hk1; obtain ⟨hK1, hL1, -⟩ := hk1; have hKc1 := hK1.cell; clear hb1 hK1) | (go_at_call 13; refine (HRM.out _ HB1.out.2.2).mono ?_; rintro e w2 ⟨rfl, hb2⟩; have hk2 := box_next HB1.out hb2; have HB2 := Lib.hid hk2; obtain ⟨hK2, hL2, -⟩ := hk2; have hKc2 := hK2.cell; clear hb2 hK2) | (go_at_call 14; refine (HRUN.out _ HB2.out.2.2).mono ?_; rintro e w3 ⟨g, vl, vh, va, vb, rfl, ca, cb, ql, qh, qa, qb, hb3⟩; obtain ⟨Al, cl, rfl⟩ := ql.len; obtain ⟨Ah, ch, rfl⟩ := qh.len; obtain ⟨Aa, ka, rfl⟩ := qa.len; obtain ⟨Ab, kb, rfl⟩ := qb.len; have hk3 := box_next HB2.out hb3; have HB3 := Lib.hid hk3; obtain ⟨hK3, hL3, -⟩ := hk3; have hKc3 := hK3.cell; have hgl := World.block_lt_of_cell? w3 _ ca; have HQQ := Lib.hid (And.intro ql (And.intro qh (And.intro qa qb))); clear hb3 hK3 ql qh qa qb) | (go_at_call 16; have hbd : Below w3.heap.size w3 (w3.alloc (.cells #[.int .i64 R.1, .slice Al R.2.2.o0.length cl, .slice Ah R.2.2.o1.length ch, .int .i64 R.2.2.u0, .int .i64 R.2.2.u1, .int .i64 R.2.1] 34)) := (Below.refl _ _).alloc (Nat.le_refl _) _; refine (HGO.out _ (HB3.out.2.2.trans (hbd.mono (Nat.le_of_lt hL3)))).mono ?_; rintro e w4 ⟨S, rfl, hM4, hb4⟩; have hkd := Blk.ext (Blk.made w3 _ _) (Below.toExt hb4); have HBD := Lib.hid (And.intro hbd hb4); clear hbd hb4))
  obtain ⟨Bl, ml, dl, Bh, mh, dh, g0, g1, s0, s1, s2, s3, s4, s5, s7, s8, rl, rh, ra, rb⟩ := rmem_ends hM4
  have hD : w3.heap.size < w4.heap.size := hkd.lt
  have HX := Lib.hid ((HBD.out.1.trans (HBD.out.2.mono (by simp))))
  have x0 := hkd.cell 0
  have x1 := hkd.cell 1
  have x2 := hkd.cell 2
  have x3 := hkd.cell 3
  have x4 := hkd.cell 4
  have x5 := hkd.cell 5
  simp only [List.getElem?_toArray, List.getElem?_cons_zero, List.getElem?_cons_succ] at x0 x1 x2 x3 x4 x5
  have y0 := (HX.out.cell (p := ⟨g, 0, none⟩) hgl).trans ca
  have y1 := (HX.out.cell (p := ⟨g, 1, none⟩) hgl).trans cb
  have HSH := Lib.hid (fun w' (hb : Below w4.heap.size w4 w') => shown_any (x := .agg #[.int .i64 R.1, .slice Al R.2.2.o0.length cl, .slice Ah R.2.2.o1.length ch, .int .i64 R.2.2.u0, .int .i64 R.2.2.u1, .int .i64 R.2.1]) (x' := .agg #[.int .i64 R.1, .slice Bl ml dl, .slice Bh mh dh, .int .i64 R.2.2.u0, .int .i64 R.2.2.u1, .int .i64 R.2.1]) w' w4.heap.size hb.size ⟨_, _, rfl, HQQ.out.1.mono (HX.out.trans (hb.mono (Nat.le_of_lt hD))) (Nat.le_of_lt hD), HQQ.out.2.1.mono (HX.out.trans (hb.mono (Nat.le_of_lt hD))) (Nat.le_of_lt hD)⟩ ⟨_, _, rfl, rl.mono hb (Nat.le_refl _), rh.mono hb (Nat.le_refl _)⟩ HLE.out.2.2.1 HLE.out.2.2.2)
  rw [decide_eq_true (⟨rfl, rfl, rfl, rfl, rfl, rfl⟩ : R.1 = R.1 ∧ (R.2.1 : Int) = R.2.1 ∧ (R.2.2.u0 : Int) = R.2.2.u0 ∧ (R.2.2.u1 : Int) = R.2.2.u1 ∧ R.2.2.o0 = R.2.2.o0 ∧ R.2.2.o1 = R.2.2.o1)] at HSH
  have HN0 := Lib.hid (fun w' (hb : Below w4.heap.size w4 w') => numbers_any _ _ R.2.2.lo R.2.2.lo w' w4.heap.size hb.size (HQQ.out.2.2.1.mono (HX.out.trans (hb.mono (Nat.le_of_lt hD))) (Nat.le_of_lt hD)) (ra.mono hb (Nat.le_refl _)) HLE.out.1)
  have HN1 := Lib.hid (fun w' (hb : Below w4.heap.size w4 w') => numbers_any _ _ R.2.2.hi R.2.2.hi w' w4.heap.size hb.size (HQQ.out.2.2.2.mono (HX.out.trans (hb.mono (Nat.le_of_lt hD))) (Nat.le_of_lt hD)) (rb.mono hb (Nat.le_refl _)) HLE.out.2.1)
  rw [decide_eq_true rfl] at HN0 HN1
  have HW := Lib.hid (show Below w.heap.size w w4 from HB3.out.2.2.trans (HX.out.mono (Nat.le_of_lt hL3)))
  have hgl4 : g < w4.heap.size := by omega
  have hSl := World.block_lt_of_cell? w4 _ s0
  dsimp only at hgl hSl
  clear hM4 hkd ca cb rl rh ra rb
  refine wp_region_held_drew (S := fun w' => w'.cell? ⟨w3.heap.size, 0, none⟩ = some (.int .i64 R.1) ∧ w'.cell? ⟨w3.heap.size, 1, none⟩ = some (.slice Al R.2.2.o0.length cl) ∧ w'.cell? ⟨w3.heap.size, 2, none⟩ = some (.slice Ah R.2.2.o1.length ch) ∧ w'.cell? ⟨w3.heap.size, 3, none⟩ = some (.int .i64 R.2.2.u0) ∧ w'.cell? ⟨w3.heap.size, 4, none⟩ = some (.int .i64 R.2.2.u1) ∧ w'.cell? ⟨w3.heap.size, 5, none⟩ = some (.int .i64 R.2.1) ∧ w'.cell? ⟨g, 0, none⟩ = some (.slice Aa R.2.2.lo.length ka) ∧ w'.cell? ⟨g, 1, none⟩ = some (.slice Ab R.2.2.hi.length kb) ∧ w'.cell? ⟨S, 0, none⟩ = some (.int .i64 R.1) ∧ w'.cell? ⟨S, 1, none⟩ = some (.slice Bl ml dl) ∧ w'.cell? ⟨S, 2, none⟩ = some (.slice Bh mh dh) ∧ w'.cell? ⟨S, 3, none⟩ = some (.int .i64 R.2.2.u0) ∧ w'.cell? ⟨S, 4, none⟩ = some (.int .i64 R.2.2.u1) ∧ w'.cell? ⟨S, 5, none⟩ = some (.int .i64 R.2.1) ∧ w'.cell? ⟨S, 7, none⟩ = some (.slice (some ⟨g0, 0, none⟩) R.2.2.lo.length R.2.2.lo.length) ∧ w'.cell? ⟨S, 8, none⟩ = some (.slice (some ⟨g1, 0, none⟩) R.2.2.hi.length R.2.2.hi.length)) mw.mixed ⟨x0, x1, x2, x3, x4, x5, y0, y1, s0, s1, s2, s3, s4, s5, s7, s8⟩ (fun hH => ?_)
  have hu0 : Below w4.heap.size w4 w4.drew := (Below.refl _ _).drew
  refine wpAnyH_take (i := 0) (v := ?va0) rfl (by kernel_rfl) (by kernel_rfl) (by kernel_rfl) (fun _ _ _ h => h) (Or.inl ⟨by rfl, ?ha0⟩) (by assumption) ?ra0
  case ha0 => intro w hSw; (try dsimp only at hSw); go_simp; (try with_reducible rfl)
  simp only [Act.put, List.getElem_toArray, List.getElem_cons_zero, List.setIfInBounds_toArray, List.set_cons_zero, List.set_cons_succ]
  refine wpAnyH_take (i := 1) (v := ?va1) rfl (by kernel_rfl) (by kernel_rfl) (by kernel_rfl) (fun _ _ _ h => h) (Or.inl ⟨by rfl, ?ha1⟩) (by assumption) ?ra1
  case ha1 => intro w hSw; (try dsimp only at hSw); go_simp; (try with_reducible rfl)
  simp only [Act.put, List.getElem_toArray, List.getElem_cons_zero, List.getElem_cons_succ, List.setIfInBounds_toArray, List.set_cons_zero, List.set_cons_succ]
  refine wpAnyH_take (i := 2) (v := ?va2) rfl (by kernel_rfl) (by kernel_rfl) (by kernel_rfl) (fun _ _ _ h => h) (Or.inl ⟨by rfl, ?ha2⟩) (by assumption) ?ra2
  case ha2 => intro w hSw; (try dsimp only at hSw); go_simp; (try with_reducible rfl)
  simp only [Act.put, List.getElem_toArray, List.getElem_cons_zero, List.getElem_cons_succ, List.setIfInBounds_toArray, List.set_cons_zero, List.set_cons_succ]
  refine wpAnyH_take (i := 3) (v := ?va3) rfl (by kernel_rfl) (by kernel_rfl) (by kernel_rfl) (fun _ _ _ h => h) (Or.inl ⟨by rfl, ?ha3⟩) (by assumption) ?ra3
  case ha3 => intro w hSw; (try dsimp only at hSw); go_simp; (try with_reducible rfl)
  simp only [Act.put, List.getElem_toArray, List.getElem_cons_zero, List.getElem_cons_succ, List.setIfInBounds_toArray, List.set_cons_zero, List.set_cons_succ]
  refine wpAnyH_take (i := 4) (v := ?va4) rfl (by kernel_rfl) (by kernel_rfl) (by kernel_rfl) (fun _ _ _ h => h) (Or.inl ⟨by rfl, ?ha4⟩) (by assumption) ?ra4
  case ha4 => intro w hSw; (try dsimp only at hSw); go_simp; (try with_reducible rfl)
  simp only [Act.put, List.getElem_toArray, List.getElem_cons_zero, List.getElem_cons_succ, List.setIfInBounds_toArray, List.set_cons_zero, List.set_cons_succ]
  refine wpAnyH_take (i := 5) (v := ?va5) rfl (by kernel_rfl) (by kernel_rfl) (by kernel_rfl) (fun _ _ _ h => h) (Or.inl ⟨by rfl, ?ha5⟩) (by assumption) ?ra5
  case ha5 => intro w hSw; (try dsimp only at hSw); go_simp; (try with_reducible rfl)
  simp only [Act.put, List.getElem_toArray, List.getElem_cons_zero, List.getElem_cons_succ, List.setIfInBounds_toArray, List.set_cons_zero, List.set_cons_succ]
  refine wpAnyH_take (i := 6) (v := ?va6) rfl (by kernel_rfl) (by kernel_rfl) (by kernel_rfl) (fun _ _ _ h => h) (Or.inl ⟨by rfl, ?ha6⟩) (by assumption) ?ra6
  case ha6 => intro w hSw; (try dsimp only at hSw); go_simp; (try with_reducible rfl)
  simp only [Act.put, List.getElem_toArray, List.getElem_cons_zero, List.getElem_cons_succ, List.setIfInBounds_toArray, List.set_cons_zero, List.set_cons_succ]
  refine wpAnyH_take (i := 7) (v := ?va7) rfl (by kernel_rfl) (by kernel_rfl) (by kernel_rfl) (fun _ _ _ h => h) (Or.inl ⟨by rfl, ?ha7⟩) (by assumption) ?ra7
  case ha7 => intro w hSw; (try dsimp only at hSw); go_simp; (try with_reducible rfl)
  simp only [Act.put, List.getElem_toArray, List.getElem_cons_zero, List.getElem_cons_succ, List.setIfInBounds_toArray, List.set_cons_zero, List.set_cons_succ]
  refine wpAnyH_ready (rs := [8]) (by kernel_rfl) (by simp) ?_
  refine AllReadyH.cons rfl (fun K2 hK2 => ?_) AllReadyH.nil
  go_simp
  refine (HSH.out _ hu0).mono ?_
  rintro e u1 ⟨rfl, hbu1⟩
  have hu1 := hu0.trans (hbu1.mono hu0.size)
  clear hbu1
  refine hK2.out _ _ ⟨(hu1.cell (p := ⟨w3.heap.size, 0, none⟩) hD).trans x0, (hu1.cell (p := ⟨w3.heap.size, 1, none⟩) hD).trans x1, (hu1.cell (p := ⟨w3.heap.size, 2, none⟩) hD).trans x2, (hu1.cell (p := ⟨w3.heap.size, 3, none⟩) hD).trans x3, (hu1.cell (p := ⟨w3.heap.size, 4, none⟩) hD).trans x4, (hu1.cell (p := ⟨w3.heap.size, 5, none⟩) hD).trans x5, (hu1.cell (p := ⟨g, 0, none⟩) hgl4).trans y0, (hu1.cell (p := ⟨g, 1, none⟩) hgl4).trans y1, (hu1.cell (p := ⟨S, 0, none⟩) hSl).trans s0, (hu1.cell (p := ⟨S, 1, none⟩) hSl).trans s1, (hu1.cell (p := ⟨S, 2, none⟩) hSl).trans s2, (hu1.cell (p := ⟨S, 3, none⟩) hSl).trans s3, (hu1.cell (p := ⟨S, 4, none⟩) hSl).trans s4, (hu1.cell (p := ⟨S, 5, none⟩) hSl).trans s5, (hu1.cell (p := ⟨S, 7, none⟩) hSl).trans s7, (hu1.cell (p := ⟨S, 8, none⟩) hSl).trans s8⟩ (fun hHx => ?_)
  clear hK2 K2
  try simp only [Act.put, List.getElem_toArray, List.getElem_cons_zero, List.getElem_cons_succ, List.setIfInBounds_toArray, List.set_cons_zero, List.set_cons_succ]
  refine wpAnyH_take (i := 9) (v := ?vb9) rfl (by kernel_rfl) (by kernel_rfl) (by kernel_rfl) (fun _ _ _ h => h) (Or.inl ⟨by rfl, ?hb9⟩) (by assumption) ?rb9
  case hb9 => intro w hSw; (try dsimp only at hSw); go_simp; (try with_reducible rfl)
  simp only [Act.put, List.getElem_toArray, List.getElem_cons_zero, List.getElem_cons_succ, List.setIfInBounds_toArray, List.set_cons_zero, List.set_cons_succ]
  refine wpAnyH_take (i := 10) (v := ?vb10) rfl (by kernel_rfl) (by kernel_rfl) (by kernel_rfl) (fun _ _ _ h => h) (Or.inl ⟨by rfl, ?hb10⟩) (by assumption) ?rb10
  case hb10 => intro w hSw; (try dsimp only at hSw); go_simp; (try with_reducible rfl)
  simp only [Act.put, List.getElem_toArray, List.getElem_cons_zero, List.getElem_cons_succ, List.setIfInBounds_toArray, List.set_cons_zero, List.set_cons_succ]
  refine wpAnyH_take (i := 11) (v := ?vb11) rfl (by kernel_rfl) (by kernel_rfl) (by kernel_rfl) (fun _ _ _ h => h) (Or.inl ⟨by rfl, ?hb11⟩) (by assumption) ?rb11
  case hb11 => intro w hSw; (try dsimp only at hSw); go_simp; (try with_reducible rfl)
  simp only [Act.put, List.getElem_toArray, List.getElem_cons_zero, List.getElem_cons_succ, List.setIfInBounds_toArray, List.set_cons_zero, List.set_cons_succ]
  refine wpAnyH_take (i := 12) (v := ?vb12) rfl (by kernel_rfl) (by kernel_rfl) (by kernel_rfl) (fun _ _ _ h => h) (Or.inl ⟨by rfl, ?hb12⟩) (by assumption) ?rb12
  case hb12 => intro w hSw; (try dsimp only at hSw); go_simp; (try with_reducible rfl)
  simp only [Act.put, List.getElem_toArray, List.getElem_cons_zero, List.getElem_cons_succ, List.setIfInBounds_toArray, List.set_cons_zero, List.set_cons_succ]
  refine wpAnyH_take (i := 13) (v := ?vb13) rfl (by kernel_rfl) (by kernel_rfl) (by kernel_rfl) (fun _ _ _ h => h) (Or.inl ⟨by rfl, ?hb13⟩) (by assumption) ?rb13
  case hb13 => intro w hSw; (try dsimp only at hSw); go_simp; (try with_reducible rfl)
  simp only [Act.put, List.getElem_toArray, List.getElem_cons_zero, List.getElem_cons_succ, List.setIfInBounds_toArray, List.set_cons_zero, List.set_cons_succ]
  refine wpAnyH_take (i := 14) (v := ?vb14) rfl (by kernel_rfl) (by kernel_rfl) (by kernel_rfl) (fun _ _ _ h => h) (Or.inl ⟨by rfl, ?hb14⟩) (by assumption) ?rb14
  case hb14 => intro w hSw; (try dsimp only at hSw); go_simp; (try with_reducible rfl)
  simp only [Act.put, List.getElem_toArray, List.getElem_cons_zero, List.getElem_cons_succ, List.setIfInBounds_toArray, List.set_cons_zero, List.set_cons_succ]
  refine wpAnyH_take (i := 15) (v := ?vb15) rfl (by kernel_rfl) (by kernel_rfl) (by kernel_rfl) (fun _ _ _ h => h) (Or.inl ⟨by rfl, ?hb15⟩) (by assumption) ?rb15
  case hb15 => intro w hSw; (try dsimp only at hSw); go_simp; (try with_reducible rfl)
  simp only [Act.put, List.getElem_toArray, List.getElem_cons_zero, List.getElem_cons_succ, List.setIfInBounds_toArray, List.set_cons_zero, List.set_cons_succ]
  refine wpAnyH_take (i := 16) (v := ?vb16) rfl (by kernel_rfl) (by kernel_rfl) (by kernel_rfl) (fun _ _ _ h => h) (Or.inl ⟨by rfl, ?hb16⟩) (by assumption) ?rb16
  case hb16 => intro w hSw; (try dsimp only at hSw); go_simp; (try with_reducible rfl)
  simp only [Act.put, List.getElem_toArray, List.getElem_cons_zero, List.getElem_cons_succ, List.setIfInBounds_toArray, List.set_cons_zero, List.set_cons_succ]
  refine wpAnyH_take (i := 17) (v := ?vb17) rfl (by kernel_rfl) (by kernel_rfl) (by kernel_rfl) (fun _ _ _ h => h) (Or.inl ⟨by rfl, ?hb17⟩) (by assumption) ?rb17
  case hb17 => intro w hSw; (try dsimp only at hSw); go_simp; (try with_reducible rfl)
  simp only [Act.put, List.getElem_toArray, List.getElem_cons_zero, List.getElem_cons_succ, List.setIfInBounds_toArray, List.set_cons_zero, List.set_cons_succ]
  refine wpAnyH_take (i := 18) (v := ?vb18) rfl (by kernel_rfl) (by kernel_rfl) (by kernel_rfl) (fun _ _ _ h => h) (Or.inl ⟨by rfl, ?hb18⟩) (by assumption) ?rb18
  case hb18 => intro w hSw; (try dsimp only at hSw); go_simp; (try with_reducible rfl)
  simp only [Act.put, List.getElem_toArray, List.getElem_cons_zero, List.getElem_cons_succ, List.setIfInBounds_toArray, List.set_cons_zero, List.set_cons_succ]
  refine wpAnyH_take (i := 19) (v := ?vb19) rfl (by kernel_rfl) (by kernel_rfl) (by kernel_rfl) (fun _ _ _ h => h) (Or.inl ⟨by rfl, ?hb19⟩) (by assumption) ?rb19
  case hb19 => intro w hSw; (try dsimp only at hSw); go_simp; (try with_reducible rfl)
  simp only [Act.put, List.getElem_toArray, List.getElem_cons_zero, List.getElem_cons_succ, List.setIfInBounds_toArray, List.set_cons_zero, List.set_cons_succ]
  refine wpAnyH_take (i := 20) (v := ?vb20) rfl (by kernel_rfl) (by kernel_rfl) (by kernel_rfl) (fun _ _ _ h => h) (Or.inl ⟨by rfl, ?hb20⟩) (by assumption) ?rb20
  case hb20 => intro w hSw; (try dsimp only at hSw); go_simp; (try with_reducible rfl)
  simp only [Act.put, List.getElem_toArray, List.getElem_cons_zero, List.getElem_cons_succ, List.setIfInBounds_toArray, List.set_cons_zero, List.set_cons_succ]
  refine wpAnyH_take (i := 21) (v := ?vb21) rfl (by kernel_rfl) (by kernel_rfl) (by kernel_rfl) (fun _ _ _ h => h) (Or.inl ⟨by rfl, ?hb21⟩) (by assumption) ?rb21
  case hb21 => intro w hSw; (try dsimp only at hSw); go_simp; (try with_reducible rfl)
  simp only [Act.put, List.getElem_toArray, List.getElem_cons_zero, List.getElem_cons_succ, List.setIfInBounds_toArray, List.set_cons_zero, List.set_cons_succ]
  refine wpAnyH_take (i := 22) (v := ?vb22) rfl (by kernel_rfl) (by kernel_rfl) (by kernel_rfl) (fun _ _ _ h => h) (Or.inl ⟨by rfl, ?hb22⟩) (by assumption) ?rb22
  case hb22 => intro w hSw; (try dsimp only at hSw); go_simp; (try with_reducible rfl)
  simp only [Act.put, List.getElem_toArray, List.getElem_cons_zero, List.getElem_cons_succ, List.setIfInBounds_toArray, List.set_cons_zero, List.set_cons_succ]
  refine wpAnyH_ready (rs := [23]) (by kernel_rfl) (by simp) ?_
  refine AllReadyH.cons rfl (fun K2 hK2 => ?_) AllReadyH.nil
  go_simp
  refine (HN0.out _ hu1).mono ?_
  rintro e u2 ⟨rfl, hbu2⟩
  have hu2 := hu1.trans (hbu2.mono hu1.size)
  clear hbu2
  refine hK2.out _ _ ⟨(hu2.cell (p := ⟨w3.heap.size, 0, none⟩) hD).trans x0, (hu2.cell (p := ⟨w3.heap.size, 1, none⟩) hD).trans x1, (hu2.cell (p := ⟨w3.heap.size, 2, none⟩) hD).trans x2, (hu2.cell (p := ⟨w3.heap.size, 3, none⟩) hD).trans x3, (hu2.cell (p := ⟨w3.heap.size, 4, none⟩) hD).trans x4, (hu2.cell (p := ⟨w3.heap.size, 5, none⟩) hD).trans x5, (hu2.cell (p := ⟨g, 0, none⟩) hgl4).trans y0, (hu2.cell (p := ⟨g, 1, none⟩) hgl4).trans y1, (hu2.cell (p := ⟨S, 0, none⟩) hSl).trans s0, (hu2.cell (p := ⟨S, 1, none⟩) hSl).trans s1, (hu2.cell (p := ⟨S, 2, none⟩) hSl).trans s2, (hu2.cell (p := ⟨S, 3, none⟩) hSl).trans s3, (hu2.cell (p := ⟨S, 4, none⟩) hSl).trans s4, (hu2.cell (p := ⟨S, 5, none⟩) hSl).trans s5, (hu2.cell (p := ⟨S, 7, none⟩) hSl).trans s7, (hu2.cell (p := ⟨S, 8, none⟩) hSl).trans s8⟩ (fun hHx => ?_)
  clear hK2 K2
  try simp only [Act.put, List.getElem_toArray, List.getElem_cons_zero, List.getElem_cons_succ, List.setIfInBounds_toArray, List.set_cons_zero, List.set_cons_succ]
  refine wpAnyH_take (i := 24) (v := ?vc24) rfl (by kernel_rfl) (by kernel_rfl) (by kernel_rfl) (fun _ _ _ h => h) (Or.inl ⟨by rfl, ?hc24⟩) (by assumption) ?rc24
  case hc24 => intro w hSw; (try dsimp only at hSw); go_simp; (try with_reducible rfl)
  simp only [Act.put, List.getElem_toArray, List.getElem_cons_zero, List.getElem_cons_succ, List.setIfInBounds_toArray, List.set_cons_zero, List.set_cons_succ]
  refine wpAnyH_take (i := 25) (v := ?vc25) rfl (by kernel_rfl) (by kernel_rfl) (by kernel_rfl) (fun _ _ _ h => h) (Or.inl ⟨by rfl, ?hc25⟩) (by assumption) ?rc25
  case hc25 => intro w hSw; (try dsimp only at hSw); go_simp; (try with_reducible rfl)
  simp only [Act.put, List.getElem_toArray, List.getElem_cons_zero, List.getElem_cons_succ, List.setIfInBounds_toArray, List.set_cons_zero, List.set_cons_succ]
  refine wpAnyH_take (i := 26) (v := ?vc26) rfl (by kernel_rfl) (by kernel_rfl) (by kernel_rfl) (fun _ _ _ h => h) (Or.inl ⟨by rfl, ?hc26⟩) (by assumption) ?rc26
  case hc26 => intro w hSw; (try dsimp only at hSw); go_simp; (try with_reducible rfl)
  simp only [Act.put, List.getElem_toArray, List.getElem_cons_zero, List.getElem_cons_succ, List.setIfInBounds_toArray, List.set_cons_zero, List.set_cons_succ]
  refine wpAnyH_take (i := 27) (v := ?vc27) rfl (by kernel_rfl) (by kernel_rfl) (by kernel_rfl) (fun _ _ _ h => h) (Or.inl ⟨by rfl, ?hc27⟩) (by assumption) ?rc27
  case hc27 => intro w hSw; (try dsimp only at hSw); go_simp; (try with_reducible rfl)
  simp only [Act.put, List.getElem_toArray, List.getElem_cons_zero, List.getElem_cons_succ, List.setIfInBounds_toArray, List.set_cons_zero, List.set_cons_succ]
  refine wpAnyH_take (i := 28) (v := ?vc28) rfl (by kernel_rfl) (by kernel_rfl) (by kernel_rfl) (fun _ _ _ h => h) (Or.inl ⟨by rfl, ?hc28⟩) (by assumption) ?rc28
  case hc28 => intro w hSw; (try dsimp only at hSw); go_simp; (try with_reducible rfl)
  simp only [Act.put, List.getElem_toArray, List.getElem_cons_zero, List.getElem_cons_succ, List.setIfInBounds_toArray, List.set_cons_zero, List.set_cons_succ]
  refine wpAnyH_take (i := 29) (v := ?vc29) rfl (by kernel_rfl) (by kernel_rfl) (by kernel_rfl) (fun _ _ _ h => h) (Or.inl ⟨by rfl, ?hc29⟩) (by assumption) ?rc29
  case hc29 => intro w hSw; (try dsimp only at hSw); go_simp; (try with_reducible rfl)
  simp only [Act.put, List.getElem_toArray, List.getElem_cons_zero, List.getElem_cons_succ, List.setIfInBounds_toArray, List.set_cons_zero, List.set_cons_succ]
  refine wpAnyH_take (i := 30) (v := ?vc30) rfl (by kernel_rfl) (by kernel_rfl) (by kernel_rfl) (fun _ _ _ h => h) (Or.inl ⟨by rfl, ?hc30⟩) (by assumption) ?rc30
  case hc30 => intro w hSw; (try dsimp only at hSw); go_simp; (try with_reducible rfl)
  simp only [Act.put, List.getElem_toArray, List.getElem_cons_zero, List.getElem_cons_succ, List.setIfInBounds_toArray, List.set_cons_zero, List.set_cons_succ]
  refine wpAnyH_take (i := 31) (v := ?vc31) rfl (by kernel_rfl) (by kernel_rfl) (by kernel_rfl) (fun _ _ _ h => h) (Or.inl ⟨by rfl, ?hc31⟩) (by assumption) ?rc31
  case hc31 => intro w hSw; (try dsimp only at hSw); go_simp; (try with_reducible rfl)
  simp only [Act.put, List.getElem_toArray, List.getElem_cons_zero, List.getElem_cons_succ, List.setIfInBounds_toArray, List.set_cons_zero, List.set_cons_succ]
  refine wpAnyH_take (i := 32) (v := ?vc32) rfl (by kernel_rfl) (by kernel_rfl) (by kernel_rfl) (fun _ _ _ h => h) (Or.inl ⟨by rfl, ?hc32⟩) (by assumption) ?rc32
  case hc32 => intro w hSw; (try dsimp only at hSw); go_simp; (try with_reducible rfl)
  simp only [Act.put, List.getElem_toArray, List.getElem_cons_zero, List.getElem_cons_succ, List.setIfInBounds_toArray, List.set_cons_zero, List.set_cons_succ]
  refine wpAnyH_ready (rs := [33]) (by kernel_rfl) (by simp) ?_
  refine AllReadyH.cons rfl (fun K2 hK2 => ?_) AllReadyH.nil
  go_simp
  refine (HN1.out _ hu2).mono ?_
  rintro e u3 ⟨rfl, hbu3⟩
  have hu3 := hu2.trans (hbu3.mono hu2.size)
  clear hbu3
  refine hK2.out _ _ ⟨(hu3.cell (p := ⟨w3.heap.size, 0, none⟩) hD).trans x0, (hu3.cell (p := ⟨w3.heap.size, 1, none⟩) hD).trans x1, (hu3.cell (p := ⟨w3.heap.size, 2, none⟩) hD).trans x2, (hu3.cell (p := ⟨w3.heap.size, 3, none⟩) hD).trans x3, (hu3.cell (p := ⟨w3.heap.size, 4, none⟩) hD).trans x4, (hu3.cell (p := ⟨w3.heap.size, 5, none⟩) hD).trans x5, (hu3.cell (p := ⟨g, 0, none⟩) hgl4).trans y0, (hu3.cell (p := ⟨g, 1, none⟩) hgl4).trans y1, (hu3.cell (p := ⟨S, 0, none⟩) hSl).trans s0, (hu3.cell (p := ⟨S, 1, none⟩) hSl).trans s1, (hu3.cell (p := ⟨S, 2, none⟩) hSl).trans s2, (hu3.cell (p := ⟨S, 3, none⟩) hSl).trans s3, (hu3.cell (p := ⟨S, 4, none⟩) hSl).trans s4, (hu3.cell (p := ⟨S, 5, none⟩) hSl).trans s5, (hu3.cell (p := ⟨S, 7, none⟩) hSl).trans s7, (hu3.cell (p := ⟨S, 8, none⟩) hSl).trans s8⟩ (fun hHx => ?_)
  clear hK2 K2
  try simp only [Act.put, List.getElem_toArray, List.getElem_cons_zero, List.getElem_cons_succ, List.setIfInBounds_toArray, List.set_cons_zero, List.set_cons_succ]
  refine wpAnyH_take (i := 34) (v := ?vd34) rfl (by kernel_rfl) (by kernel_rfl) (by kernel_rfl) (fun _ _ _ h => h) (Or.inl ⟨by rfl, ?hd34⟩) (by assumption) ?rd34
  case hd34 => intro w hSw; (try dsimp only at hSw); go_simp; (try with_reducible rfl)
  simp only [Act.put, List.getElem_toArray, List.getElem_cons_zero, List.getElem_cons_succ, List.setIfInBounds_toArray, List.set_cons_zero, List.set_cons_succ]
  refine wpAnyH_take (i := 35) (v := ?vd35) rfl (by kernel_rfl) (by kernel_rfl) (by kernel_rfl) (fun _ _ _ h => h) (Or.inl ⟨by rfl, ?hd35⟩) (by assumption) ?rd35
  case hd35 => intro w hSw; (try dsimp only at hSw); go_simp; (try with_reducible rfl)
  simp only [Act.put, List.getElem_toArray, List.getElem_cons_zero, List.getElem_cons_succ, List.setIfInBounds_toArray, List.set_cons_zero, List.set_cons_succ]
  refine wpAnyH_done (by kernel_rfl) ?_ _
  go_wp2_with fail
  go_ret
  exact ⟨rfl, HW.out.trans (hu3.mono (by have := HW.out.size; omega))⟩
end mst
end Go.Proofs.Ytpcihajmcejliaa
namespace Go.Proofs.Ytpcihajmcejliaa
open Go.RowKit
open mst
namespace mst
theorem tells_any (v : Value) (code : List Ins) (lo hi : Int) (v0 v1 : Value) (i0 i1 : List Int) (fuel : Int) (w : World) (hv : CodeAt w v code) (hok : ∀ i ∈ code, okI i.n) (q0 : InB w w.heap.size v0 i0) (q1 : InB w w.heap.size v1 i1) (k0 : ∀ x ∈ i0, okI x) (k1 : ∀ x ∈ i1, okI x) :
    Calls Try.prog 6 #[.agg #[v, .int .i64 lo, .int .i64 hi], v0, v1, .int .i64 fuel] w fun e w' => e = .returned (.bool true) ∧ Below w.heap.size w w' := by
  obtain ⟨A0, c0, e0⟩ := q0.len
  obtain ⟨A1, c1, e1⟩ := q1.len
  cases hm : mayB code lo hi
  · by_cases h1 : fuel ≤ 5000
    · exact tells_form1 v code lo hi v0 v1 fuel w hv A0 A1 _ _ c0 c1 e0 e1 hm h1
    · by_cases h2 : fuel ≤ 90000
      · exact tells_early2 v code lo hi v0 v1 fuel w hv A0 A1 _ _ c0 c1 e0 e1 hm (by omega) h2
      · exact tells_form2 v code lo hi v0 v1 fuel w hv A0 A1 _ _ c0 c1 e0 e1 hm (by omega)
  · by_cases h1 : fuel ≤ 5000
    · by_cases h0 : fuel < 0
      · exact tells_range1 v code lo hi v0 v1 fuel w hv A0 A1 _ _ c0 c1 e0 e1 hm h0
      · by_cases hn : 1000 < i0.length
        · exact tells_size1 v code lo hi v0 v1 fuel w hv A0 A1 _ _ c0 c1 e0 e1 hm (by omega) h1 hn
        · by_cases hm2 : 1000 < i1.length
          · exact tells_size2 v code lo hi v0 v1 fuel w hv A0 A1 _ _ c0 c1 e0 e1 hm (by omega) h1 hn hm2
          · have hmm := hm
            simp only [mayB, Bool.and_eq_true, decide_eq_true_eq] at hmm
            obtain ⟨lo, rfl⟩ : ∃ n : Nat, lo = n := ⟨lo.toNat, by omega⟩
            obtain ⟨hi, rfl⟩ : ∃ n : Nat, hi = n := ⟨hi.toNat, by omega⟩
            obtain ⟨fuel, rfl⟩ : ∃ n : Nat, fuel = n := ⟨fuel.toNat, by omega⟩
            rcases hv with ⟨A, c, rfl, rfl⟩ | ⟨b, off, cap, rfl, hb, hbig, ho⟩
            · simp at hmm
            · exact tells_ok b off cap code lo hi v0 v1 i0 i1 fuel w ho hb hm hok (by omega) q0 q1 k0 k1 (by omega) (by omega) hbig
    · by_cases h2 : fuel ≤ 90000
      · exact tells_early v code lo hi v0 v1 fuel w hv A0 A1 _ _ c0 c1 e0 e1 hm (by omega) h2
      · exact tells_range2 v code lo hi v0 v1 fuel w hv A0 A1 _ _ c0 c1 e0 e1 hm (by omega)
end mst
end Go.Proofs.Ytpcihajmcejliaa
