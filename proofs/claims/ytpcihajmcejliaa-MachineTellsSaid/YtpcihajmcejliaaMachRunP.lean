/- The walk of machine.Run, where it tells what is wrong. -/
import Derived.Test.YtpcihajmcejliaaMachMayB
import Derived.Test.YtpcihajmcejliaaMachGo
import Derived.Test.YtpcihajmcejliaaFrame
namespace Go.Proofs.Ytpcihajmcejliaa
open Go.RowKit
open mst
theorem OrdersAt.below {w w' : World} {v : Value} {code : List Ins} {B : Nat} (h : OrdersAt w v code) (hb : Below B w w') (hB : w.heap.size ≤ B) : OrdersAt w' v code := by
  rcases h with h | ⟨b, off, cap, hv, hlt, hn, ho⟩
  · exact .inl h
  · exact .inr ⟨b, off, cap, hv, Nat.lt_of_lt_of_le hlt hb.size, hn, ho.below hb (by omega)⟩
theorem OrdersAt.isSlice {w : World} {v : Value} {code : List Ins} (h : OrdersAt w v code) : ∃ A n c, v = .slice A n c := by
  rcases h with ⟨rfl, -⟩ | ⟨b, off, cap, rfl, -⟩
  · exact ⟨_, _, _, rfl⟩
  · exact ⟨_, _, _, rfl⟩
/-- a slice of orders: none of them, or so many in a row -/
def CodeAt (w : World) (v : Value) (code : List Ins) : Prop :=
  (∃ A c, v = .slice A 0 c ∧ code = []) ∨ ∃ b off cap, v = .slice (some ⟨b, off, none⟩) code.length cap ∧ b < w.heap.size ∧ code.length ≤ 9223372036854775807 ∧ Orders w b off code
theorem CodeAt.below {w w' : World} {v : Value} {code : List Ins} {B : Nat} (h : CodeAt w v code) (hb : Below B w w') (hB : w.heap.size ≤ B) : CodeAt w' v code := by
  rcases h with h | ⟨b, off, cap, hv, hlt, hn, ho⟩
  · exact .inl h
  · exact .inr ⟨b, off, cap, hv, Nat.lt_of_lt_of_le hlt hb.size, hn, ho.below hb (by omega)⟩
theorem CodeAt.isSlice {w : World} {v : Value} {code : List Ins} (h : CodeAt w v code) : ∃ A n c, v = .slice A n c := by
  rcases h with ⟨A, c, rfl, -⟩ | ⟨b, off, cap, rfl, -⟩
  · exact ⟨_, _, _, rfl⟩
  · exact ⟨_, _, _, rfl⟩
theorem may_zero (A : Option Addr) (c : Nat) (lo hi : Int) (w : World) :
    Calls Try.prog 12 #[.agg #[.slice A 0 c, .int .i64 lo, .int .i64 hi]] w (mof.OrdPost (mayB [] lo hi) w) := by
  have h : mayB [] lo hi = false := rfl
  rw [h]
  go_enter Try.func12, Try.ntmps12
  go_wp2_with fail
  go_ret
  exact ⟨rfl, (Below.refl _ _).alloc (Nat.le_refl _) _⟩
theorem rmay_zero (A : Option Addr) (c : Nat) (lo hi : Int) (w : World) :
    Calls Try.prog 13 #[.agg #[.slice A 0 c, .int .i64 lo, .int .i64 hi]] w (mof.OrdPost (mayB [] lo hi) w) := by
  have h : mayB [] lo hi = false := rfl
  rw [h]
  go_enter Try.func13, Try.ntmps13
  go_wp2_with fail
  go_ret
  exact ⟨rfl, (Below.refl _ _).alloc (Nat.le_refl _) _⟩
theorem cmay_any (v : Value) (code : List Ins) (lo hi : Int) (w : World) (h : CodeAt w v code) :
    Calls Try.prog 12 #[.agg #[v, .int .i64 lo, .int .i64 hi]] w (mof.OrdPost (mayB code lo hi) w) := by
  rcases h with ⟨A, c, rfl, rfl⟩ | ⟨b, off, cap, rfl, hb, hn, ho⟩
  · exact may_zero A c lo hi w
  · exact mof.may_some b off cap code lo hi w ho hb hn
theorem crmay_any (v : Value) (code : List Ins) (lo hi : Int) (w : World) (h : CodeAt w v code) :
    Calls Try.prog 13 #[.agg #[v, .int .i64 lo, .int .i64 hi]] w (mof.OrdPost (mayB code lo hi) w) := by
  rcases h with ⟨A, c, rfl, rfl⟩ | ⟨b, off, cap, rfl, hb, hn, ho⟩
  · exact rmay_zero A c lo hi w
  · exact mof.rmay_some b off cap code lo hi w ho hb hn
/-- nothing shown -/
def zeroShown : Value := .agg #[.int .i64 0, .slice none 0 0, .slice none 0 0, .int .i64 0, .int .i64 0, .int .i64 0]
namespace mst
theorem results_cell3 {P : Program} {fn : Func} {p q r : Tmp} {ty : TypeId} (h : fn.results = #[.cell p ty, .tmp q, .tmp r]) (tmps : Array Value) (w : World) {g : Nat} {T : TypeId} {cs : Array Value} {d : TypeDesc}
    (hp : tmps.getD p undef = .pointer (some ⟨g, 0, none⟩)) (hg : Blk w g cs T) (hu : P.underlying ty = some d) (hd : (match d with | .struct _ | .array _ _ => true | _ => false) = true) (hi : (P.info? ty).map (·.size) = some cs.size) :
    (results fn tmps).run P w = .ok (.tuple #[.agg cs, tmps.getD q undef, tmps.getD r undef]) w := by
  have hp' : tmps[p]?.getD undef = .pointer (some ⟨g, 0, none⟩) := by simpa using hp
  simp [results, h, hp', asAddr, run_loadVar_row w g T ty cs (0, 0) d hg hu hd hi]
/-- what lies at hand once it is asked whether the image may be -/
theorem run_head {w w1 : World} {v : Value} {lo hi : Int} (hb : Below ((w.alloc (.cells #[v, .int .i64 lo, .int .i64 hi] 30)).alloc (.cells #[.int .i64 0, .slice none 0 0, .slice none 0 0, .int .i64 0, .int .i64 0, .int .i64 0] 34)).heap.size ((w.alloc (.cells #[v, .int .i64 lo, .int .i64 hi] 30)).alloc (.cells #[.int .i64 0, .slice none 0 0, .slice none 0 0, .int .i64 0, .int .i64 0, .int .i64 0] 34)) w1) :
    w1.cell? ⟨w.heap.size, 0, none⟩ = some v ∧ w1.cell? ⟨w.heap.size, 1, none⟩ = some (.int .i64 lo) ∧ w1.cell? ⟨w.heap.size, 2, none⟩ = some (.int .i64 hi) ∧ Blk w1 (w.heap.size + 1) #[.int .i64 0, .slice none 0 0, .slice none 0 0, .int .i64 0, .int .i64 0, .int .i64 0] 34 ∧ w.heap.size + 2 ≤ w1.heap.size ∧ Below w.heap.size w w1 := by
  have k := Blk.ext ((Blk.made w #[v, .int .i64 lo, .int .i64 hi] 30).alloc (.cells #[.int .i64 0, .slice none 0 0, .slice none 0 0, .int .i64 0, .int .i64 0, .int .i64 0] 34)) (Below.toExt hb)
  have k2 := Blk.ext (Blk.made2 w (.cells #[v, .int .i64 lo, .int .i64 hi] 30) #[.int .i64 0, .slice none 0 0, .slice none 0 0, .int .i64 0, .int .i64 0, .int .i64 0] 34) (Below.toExt hb)
  have hs := hb.size
  refine ⟨k.cell 0, k.cell 1, k.cell 2, k2, by simpa using hs, (((Below.refl _ _).alloc (Nat.le_refl _) _).alloc (by simp) _).trans (hb.mono (by simp; omega))⟩
set_option maxRecDepth 100000 in
set_option maxHeartbeats 4000000 in
theorem run_form (v : Value) (code : List Ins) (lo hi : Int) (v0 v1 : Value) (fuel : Int) (w : World) (hv : CodeAt w v code) (hmay : mayB code lo hi = false) :
    Calls Try.prog 14 #[.agg #[v, .int .i64 lo, .int .i64 hi], v0, v1, .int .i64 fuel] w fun e w' => e = .returned (.tuple #[zeroShown, .slice none 0 0, .int .i64 2]) ∧ Below w.heap.size w w' := by
  have HM := Lib.hid (fun w' (hb : Below w.heap.size w w') => cmay_any v code lo hi w' (hv.below hb (Nat.le_refl _)))
  rw [hmay] at HM
  have hb0 : Below w.heap.size w ((w.alloc (.cells #[v, .int .i64 lo, .int .i64 hi] 30)).alloc (.cells #[.int .i64 0, .slice none 0 0, .slice none 0 0, .int .i64 0, .int .i64 0, .int .i64 0] 34)) := ((Below.refl _ _).alloc (Nat.le_refl _) _).alloc (by simp) _
  have HB0 := Lib.hid hb0
  have hv2 : Hid (∃ A n c, v = .slice A n c) := hv.isSlice
  obtain ⟨A, n, c, rfl⟩ := hv2.out
  clear hmay hb0 hv hv2
  go_enter Try.func14, Try.ntmps14
  go_wp2_with (go_at_call 12; refine (HM.out _ HB0.out).mono ?_; rintro e w1 ⟨rfl, hb⟩; obtain ⟨-, -, -, hK, hsz, hB⟩ := run_head hb; clear hb; have hKc := hK.cell; have hKf := hK.frozen; have hKl := hK.lt)
  refine bodyPost_ret (results_cell3 rfl _ _ rfl ((((((hK.set 0 _).set 1 _).set 2 _).set 3 _).set 4 _).set 5 _) Try.underlying34 rfl (by kernel_rfl)) rfl ?_
  exact ⟨rfl, (((((hB.setCell (by simp) _).setCell (by simp) _).setCell (by simp) _).setCell (by simp) _).setCell (by simp) _).setCell (by simp) _⟩
set_option maxRecDepth 100000 in
set_option maxHeartbeats 4000000 in
theorem run_range1 (v : Value) (code : List Ins) (lo hi : Int) (v0 v1 : Value) (fuel : Int) (w : World) (hv : CodeAt w v code) (hmay : mayB code lo hi = true) (hf : fuel < 0) :
    Calls Try.prog 14 #[.agg #[v, .int .i64 lo, .int .i64 hi], v0, v1, .int .i64 fuel] w fun e w' => e = .returned (.tuple #[zeroShown, .slice none 0 0, .int .i64 6]) ∧ Below w.heap.size w w' := by
  have HM := Lib.hid (fun w' (hb : Below w.heap.size w w') => cmay_any v code lo hi w' (hv.below hb (Nat.le_refl _)))
  rw [hmay] at HM
  have hb0 : Below w.heap.size w ((w.alloc (.cells #[v, .int .i64 lo, .int .i64 hi] 30)).alloc (.cells #[.int .i64 0, .slice none 0 0, .slice none 0 0, .int .i64 0, .int .i64 0, .int .i64 0] 34)) := ((Below.refl _ _).alloc (Nat.le_refl _) _).alloc (by simp) _
  have HB0 := Lib.hid hb0
  have hv2 : Hid (∃ A n c, v = .slice A n c) := hv.isSlice
  obtain ⟨A, n, c, rfl⟩ := hv2.out
  clear hmay hb0 hv hv2
  go_enter Try.func14, Try.ntmps14
  go_wp2_with (go_at_call 12; refine (HM.out _ HB0.out).mono ?_; rintro e w1 ⟨rfl, hb⟩; obtain ⟨-, -, -, hK, hsz, hB⟩ := run_head hb; clear hb; have hKc := hK.cell; have hKf := hK.frozen; have hKl := hK.lt)
  refine bodyPost_ret (results_cell3 rfl _ _ rfl ((((((hK.set 0 _).set 1 _).set 2 _).set 3 _).set 4 _).set 5 _) Try.underlying34 rfl (by kernel_rfl)) rfl ?_
  exact ⟨rfl, (((((hB.setCell (by simp) _).setCell (by simp) _).setCell (by simp) _).setCell (by simp) _).setCell (by simp) _).setCell (by simp) _⟩
set_option maxRecDepth 100000 in
set_option maxHeartbeats 4000000 in
theorem run_range2 (v : Value) (code : List Ins) (lo hi : Int) (v0 v1 : Value) (fuel : Int) (w : World) (hv : CodeAt w v code) (hmay : mayB code lo hi = true) (hf : 90000 < fuel) :
    Calls Try.prog 14 #[.agg #[v, .int .i64 lo, .int .i64 hi], v0, v1, .int .i64 fuel] w fun e w' => e = .returned (.tuple #[zeroShown, .slice none 0 0, .int .i64 6]) ∧ Below w.heap.size w w' := by
  have HM := Lib.hid (fun w' (hb : Below w.heap.size w w') => cmay_any v code lo hi w' (hv.below hb (Nat.le_refl _)))
  rw [hmay] at HM
  have hb0 : Below w.heap.size w ((w.alloc (.cells #[v, .int .i64 lo, .int .i64 hi] 30)).alloc (.cells #[.int .i64 0, .slice none 0 0, .slice none 0 0, .int .i64 0, .int .i64 0, .int .i64 0] 34)) := ((Below.refl _ _).alloc (Nat.le_refl _) _).alloc (by simp) _
  have HB0 := Lib.hid hb0
  have hf1 : ¬ fuel < 0 := by omega
  have hv2 : Hid (∃ A n c, v = .slice A n c) := hv.isSlice
  obtain ⟨A, n, c, rfl⟩ := hv2.out
  clear hmay hb0 hv hv2
  go_enter Try.func14, Try.ntmps14
  go_wp2_with (go_at_call 12; refine (HM.out _ HB0.out).mono ?_; rintro e w1 ⟨rfl, hb⟩; obtain ⟨-, -, -, hK, hsz, hB⟩ := run_head hb; clear hb; have hKc := hK.cell; have hKf := hK.frozen; have hKl := hK.lt)
  refine bodyPost_ret (results_cell3 rfl _ _ rfl ((((((hK.set 0 _).set 1 _).set 2 _).set 3 _).set 4 _).set 5 _) Try.underlying34 rfl (by kernel_rfl)) rfl ?_
  exact ⟨rfl, (((((hB.setCell (by simp) _).setCell (by simp) _).setCell (by simp) _).setCell (by simp) _).setCell (by simp) _).setCell (by simp) _⟩
set_option maxRecDepth 100000 in
set_option maxHeartbeats 4000000 in
theorem run_size1 (v : Value) (code : List Ins) (lo hi : Int) (v0 v1 : Value) (fuel : Int) (w : World) (hv : CodeAt w v code) (hmay : mayB code lo hi = true) (hf0 : 0 ≤ fuel) (hf1 : fuel ≤ 90000) (A0 A1 : Option Addr) (n0 n1 c0 c1 : Nat) (e0 : v0 = .slice A0 n0 c0) (e1 : v1 = .slice A1 n1 c1) (hn : 1000 < n0) :
    Calls Try.prog 14 #[.agg #[v, .int .i64 lo, .int .i64 hi], v0, v1, .int .i64 fuel] w fun e w' => e = .returned (.tuple #[zeroShown, .slice none 0 0, .int .i64 1]) ∧ Below w.heap.size w w' := by
  have HM := Lib.hid (fun w' (hb : Below w.heap.size w w') => cmay_any v code lo hi w' (hv.below hb (Nat.le_refl _)))
  rw [hmay] at HM
  have hb0 : Below w.heap.size w ((w.alloc (.cells #[v, .int .i64 lo, .int .i64 hi] 30)).alloc (.cells #[.int .i64 0, .slice none 0 0, .slice none 0 0, .int .i64 0, .int .i64 0, .int .i64 0] 34)) := ((Below.refl _ _).alloc (Nat.le_refl _) _).alloc (by simp) _
  have HB0 := Lib.hid hb0
  subst e0
  subst e1
  have hf2 : ¬ fuel < 0 := by omega
  have hf3 : ¬ 90000 < fuel := by omega
  have hn2 : (1000 : Int) < (n0 : Int) := by omega
  have hv2 : Hid (∃ A n c, v = .slice A n c) := hv.isSlice
  obtain ⟨A, n, c, rfl⟩ := hv2.out
  clear hmay hb0 hv hv2
  go_enter Try.func14, Try.ntmps14
  go_wp2_with (go_at_call 12; refine (HM.out _ HB0.out).mono ?_; rintro e w1 ⟨rfl, hb⟩; obtain ⟨-, -, -, hK, hsz, hB⟩ := run_head hb; clear hb; have hKc := hK.cell; have hKf := hK.frozen; have hKl := hK.lt)
  refine bodyPost_ret (results_cell3 rfl _ _ rfl ((((((hK.set 0 _).set 1 _).set 2 _).set 3 _).set 4 _).set 5 _) Try.underlying34 rfl (by kernel_rfl)) rfl ?_
  exact ⟨rfl, (((((hB.setCell (by simp) _).setCell (by simp) _).setCell (by simp) _).setCell (by simp) _).setCell (by simp) _).setCell (by simp) _⟩
set_option maxRecDepth 100000 in
set_option maxHeartbeats 4000000 in
theorem run_size2 (v : Value) (code : List Ins) (lo hi : Int) (v0 v1 : Value) (fuel : Int) (w : World) (hv : CodeAt w v code) (hmay : mayB code lo hi = true) (hf0 : 0 ≤ fuel) (hf1 : fuel ≤ 90000) (A0 A1 : Option Addr) (n0 n1 c0 c1 : Nat) (e0 : v0 = .slice A0 n0 c0) (e1 : v1 = .slice A1 n1 c1) (hn : ¬ 1000 < n0) (hm : 1000 < n1) :
    Calls Try.prog 14 #[.agg #[v, .int .i64 lo, .int .i64 hi], v0, v1, .int .i64 fuel] w fun e w' => e = .returned (.tuple #[zeroShown, .slice none 0 0, .int .i64 1]) ∧ Below w.heap.size w w' := by
  have HM := Lib.hid (fun w' (hb : Below w.heap.size w w') => cmay_any v code lo hi w' (hv.below hb (Nat.le_refl _)))
  rw [hmay] at HM
  have hb0 : Below w.heap.size w ((w.alloc (.cells #[v, .int .i64 lo, .int .i64 hi] 30)).alloc (.cells #[.int .i64 0, .slice none 0 0, .slice none 0 0, .int .i64 0, .int .i64 0, .int .i64 0] 34)) := ((Below.refl _ _).alloc (Nat.le_refl _) _).alloc (by simp) _
  have HB0 := Lib.hid hb0
  subst e0
  subst e1
  have hf2 : ¬ fuel < 0 := by omega
  have hf3 : ¬ 90000 < fuel := by omega
  have hn2 : ¬ (1000 : Int) < (n0 : Int) := by omega
  have hm2 : (1000 : Int) < (n1 : Int) := by omega
  have hv2 : Hid (∃ A n c, v = .slice A n c) := hv.isSlice
  obtain ⟨A, n, c, rfl⟩ := hv2.out
  clear hmay hb0 hv hv2
  go_enter Try.func14, Try.ntmps14
  go_wp2_with (go_at_call 12; refine (HM.out _ HB0.out).mono ?_; rintro e w1 ⟨rfl, hb⟩; obtain ⟨-, -, -, hK, hsz, hB⟩ := run_head hb; clear hb; have hKc := hK.cell; have hKf := hK.frozen; have hKl := hK.lt)
  refine bodyPost_ret (results_cell3 rfl _ _ rfl ((((((hK.set 0 _).set 1 _).set 2 _).set 3 _).set 4 _).set 5 _) Try.underlying34 rfl (by kernel_rfl)) rfl ?_
  exact ⟨rfl, (((((hB.setCell (by simp) _).setCell (by simp) _).setCell (by simp) _).setCell (by simp) _).setCell (by simp) _).setCell (by simp) _⟩
end mst
end Go.Proofs.Ytpcihajmcejliaa
