/- The walks of scanner.run, at each function that it is handed. -/
import Derived.Test.YtpcihajmcejliaaGreatDoorLex
namespace Go.Proofs.YtpcihajmcejliaaGreatDoor
open Go.RowKit
/-- how many bytes from here on are of a kind -/
def runN (p : Int → Bool) (l : List UInt8) : Nat := (l.takeWhile fun c => p c.toNat).length
theorem runN_le (p : Int → Bool) (l : List UInt8) : runN p l ≤ l.length := by unfold runN; exact (List.takeWhile_sublist _).length_le
theorem runN_step (p : Int → Bool) (s : ByteArray) (k : Nat) (h : k < s.size) (hp : p (s[k].toNat : Int) = true) : runN p (s.data.toList.drop k) = 1 + runN p (s.data.toList.drop (k + 1)) := by
  rw [List.drop_eq_getElem_cons (by simpa using h)]
  have e : s.data.toList[k]'(by simpa using h) = s[k] := rfl
  simp only [runN, List.takeWhile_cons, e, hp, if_true, List.length_cons]
  omega
theorem runN_stop (p : Int → Bool) (s : ByteArray) (k : Nat) (h : k < s.size) (hp : p (s[k].toNat : Int) = false) : runN p (s.data.toList.drop k) = 0 := by
  rw [List.drop_eq_getElem_cons (by simpa using h)]
  have e : s.data.toList[k]'(by simpa using h) = s[k] := rfl
  simp [runN, e, hp]
theorem runN_end (p : Int → Bool) (s : ByteArray) (k : Nat) (h : s.size ≤ k) : runN p (s.data.toList.drop k) = 0 := by
  rw [List.drop_eq_nil_of_le (by simpa using h)]
  rfl
def blankB (n : Int) : Bool := decide (n = 32 ∨ n = 10)
def otherB (n : Int) : Bool := decide (n ≠ 10)
namespace lex
/-- the scanner at its block -/
abbrev Scn (w : World) (p : Nat) (s : ByteArray) (k : Nat) (c f : Int) : Prop := Blk w p #[.string s, .int .i64 k, .int .i64 c, .int .i64 f] 258
theorem Scn.step {w : World} {p : Nat} {s : ByteArray} {k : Nat} {c f : Int} (h : Scn w p s k c f) : Scn (w.setCell ⟨p, 1, none⟩ (.int .i64 (k + 1))) p s (k + 1) c f := h.set 1 _
def at1 (w : World) (p : Nat) : Nat := (intOf ((w.cell? ⟨p, 1, none⟩).getD undef)).toNat
theorem Scn.at1 {w : World} {p : Nat} {s : ByteArray} {k : Nat} {c f : Int} (h : Scn w p s k c f) : at1 w p = k := by
  unfold lex.at1
  rw [h.cell 1]
  simp [intOf]
set_option maxHeartbeats 400000 in
theorem blank_any (n : Int) (w : World) :
    Calls Tryz.prog 192 #[.int .u8 n] w fun e w' => e = .returned (.bool (blankB n)) ∧ w = w' := by
  generalize hR : blankB n = R
  have HR := Lib.hid hR
  clear hR
  go_enter Tryz.func192, Tryz.ntmps192
  go_wp2
  all_goals go_ret
  all_goals exact ⟨ret_bool (by rw [← HR.out, blankB, Bool.eq_iff_iff]; simp; try omega), rfl⟩
set_option maxHeartbeats 400000 in
theorem other_any (n : Int) (w : World) :
    Calls Tryz.prog 193 #[.int .u8 n] w fun e w' => e = .returned (.bool (otherB n)) ∧ w = w' := by
  generalize hR : otherB n = R
  have HR := Lib.hid hR
  clear hR
  go_enter Tryz.func193, Tryz.ntmps193
  go_wp2
  all_goals go_ret
  all_goals exact ⟨ret_bool (by rw [← HR.out, otherB, Bool.eq_iff_iff]; simp), rfl⟩
set_option maxRecDepth 100000 in
set_option maxHeartbeats 1000000 in
theorem run_part (p : Nat) (s : ByteArray) (k0 : Nat) (c f : Int) (w : World) (h : Scn w p s k0 c f) (hk : k0 ≤ s.size) (hs : s.size ≤ 100000) :
    Calls Tryz.prog 191 #[.pointer (some ⟨p, 0, none⟩), .func (.func 195) #[] #[]] w
      fun e w' => e = .returned (.string (s.extract k0 (k0 + runN partB (s.data.toList.drop k0)))) ∧ Scn w' p s (k0 + runN partB (s.data.toList.drop k0)) c f ∧ Chg (fun i => i = p) w w' := by
  generalize hR : k0 + runN partB (s.data.toList.drop k0) = R
  have HR := Lib.hid hR
  clear hR
  have c0 := h.cell 0
  have c1 := h.cell 1
  simp only [List.getElem?_toArray, List.getElem?_cons_zero, List.getElem?_cons_succ] at c0 c1
  go_enter Tryz.func191, Tryz.ntmps191
  go_wp2_with fail
  clear c0 c1
  go_loopw [] (fun wr => ∃ k : Nat, k0 ≤ k ∧ k ≤ s.size ∧ Scn wr p s k c f ∧ Chg (fun i => i = p) w wr ∧ Hid (k + runN partB (s.data.toList.drop k) = R)) (fun wr => s.size - at1 wr p)
  case atStart => exact ⟨k0, by omega, hk, h, Chg.refl _ _, HR.out⟩
  case round =>
    obtain ⟨k, hk0, hk1, hS, hC, hrel⟩ := hrel
    have c0 := hS.cell 0
    have c1 := hS.cell 1
    have f1 := hS.frozen 1
    simp only [List.getElem?_toArray, List.getElem?_cons_zero, List.getElem?_cons_succ] at c0 c1
    by_cases hlt : k < s.size
    · have hd : decide ((k : Int) < (s.size : Int)) = true := by simp; omega
      cases hb : partB (s[k].toNat : Int)
      · have cc := part_any (s[k].toNat : Int)
        rw [hb] at cc
        have CC := Lib.hid cc
        have hr := runN_stop partB s k hlt hb
        have hR := hrel.out
        rw [hr] at hR
        have HR2 := Lib.hid hR
        clear hb cc hr hR
        go_wp2_with fail
        go_quiet ((go_at_call 195; exact Calls.quiet_of_same ((CC.out _).mono fun _ _ h => ⟨h.1, h.2.symm⟩)))
        go_wp2_with fail
        go_quiet (fail)
        go_wp2_with fail
        go_ret
        obtain rfl : k = R := HR2.out
        exact ⟨rfl, (hS.drewN _).drewN _, (hC.drewN _).drewN _⟩
      · have cc := part_any (s[k].toNat : Int)
        rw [hb] at cc
        have CC := Lib.hid cc
        have hr := runN_step partB s k hlt hb
        have hR := hrel.out
        rw [hr] at hR
        have HR2 := Lib.hid hR
        clear hb cc hr hR
        go_wp2_with fail
        go_quiet ((go_at_call 195; exact Calls.quiet_of_same ((CC.out _).mono fun _ _ h => ⟨h.1, h.2.symm⟩)))
        go_wp2_with fail
        go_roundw
        case rel => exact ⟨k + 1, by omega, by omega, Scn.step (hS.drewN _), (hC.drewN _).setCell (fun _ => rfl) _, by have := HR2.out; unfold Hid; omega⟩
        case measure => rw [Scn.at1 hS, Scn.at1 (Scn.step (hS.drewN _))]; omega
    · have hd : decide ((k : Int) < (s.size : Int)) = false := by simp; omega
      have hr := runN_end partB s k (by omega)
      have hR := hrel.out
      rw [hr] at hR
      have HR2 := Lib.hid hR
      clear hr hR
      go_wp2_with fail
      go_quiet (fail)
      go_wp2_with fail
      go_quiet (fail)
      go_wp2_with fail
      go_ret
      obtain rfl : k = R := HR2.out
      exact ⟨rfl, (hS.drewN _).drewN _, (hC.drewN _).drewN _⟩
set_option maxRecDepth 100000 in
set_option maxHeartbeats 1000000 in
theorem run_blank (p : Nat) (s : ByteArray) (k0 : Nat) (c f : Int) (w : World) (h : Scn w p s k0 c f) (hk : k0 ≤ s.size) (hs : s.size ≤ 100000) :
    Calls Tryz.prog 191 #[.pointer (some ⟨p, 0, none⟩), .func (.func 192) #[] #[]] w
      fun e w' => e = .returned (.string (s.extract k0 (k0 + runN blankB (s.data.toList.drop k0)))) ∧ Scn w' p s (k0 + runN blankB (s.data.toList.drop k0)) c f ∧ Chg (fun i => i = p) w w' := by
  generalize hR : k0 + runN blankB (s.data.toList.drop k0) = R
  have HR := Lib.hid hR
  clear hR
  have c0 := h.cell 0
  have c1 := h.cell 1
  simp only [List.getElem?_toArray, List.getElem?_cons_zero, List.getElem?_cons_succ] at c0 c1
  go_enter Tryz.func191, Tryz.ntmps191
  go_wp2_with fail
  clear c0 c1
  go_loopw [] (fun wr => ∃ k : Nat, k0 ≤ k ∧ k ≤ s.size ∧ Scn wr p s k c f ∧ Chg (fun i => i = p) w wr ∧ Hid (k + runN blankB (s.data.toList.drop k) = R)) (fun wr => s.size - at1 wr p)
  case atStart => exact ⟨k0, by omega, hk, h, Chg.refl _ _, HR.out⟩
  case round =>
    obtain ⟨k, hk0, hk1, hS, hC, hrel⟩ := hrel
    have c0 := hS.cell 0
    have c1 := hS.cell 1
    have f1 := hS.frozen 1
    simp only [List.getElem?_toArray, List.getElem?_cons_zero, List.getElem?_cons_succ] at c0 c1
    by_cases hlt : k < s.size
    · have hd : decide ((k : Int) < (s.size : Int)) = true := by simp; omega
      cases hb : blankB (s[k].toNat : Int)
      · have cc := blank_any (s[k].toNat : Int)
        rw [hb] at cc
        have CC := Lib.hid cc
        have hr := runN_stop blankB s k hlt hb
        have hR := hrel.out
        rw [hr] at hR
        have HR2 := Lib.hid hR
        clear hb cc hr hR
        go_wp2_with fail
        go_quiet ((go_at_call 192; exact Calls.quiet_of_same ((CC.out _).mono fun _ _ h => ⟨h.1, h.2.symm⟩)))
        go_wp2_with fail
        go_quiet (fail)
        go_wp2_with fail
        go_ret
        obtain rfl : k = R := HR2.out
        exact ⟨rfl, (hS.drewN _).drewN _, (hC.drewN _).drewN _⟩
      · have cc := blank_any (s[k].toNat : Int)
        rw [hb] at cc
        have CC := Lib.hid cc
        have hr := runN_step blankB s k hlt hb
        have hR := hrel.out
        rw [hr] at hR
        have HR2 := Lib.hid hR
        clear hb cc hr hR
        go_wp2_with fail
        go_quiet ((go_at_call 192; exact Calls.quiet_of_same ((CC.out _).mono fun _ _ h => ⟨h.1, h.2.symm⟩)))
        go_wp2_with fail
        go_roundw
        case rel => exact ⟨k + 1, by omega, by omega, Scn.step (hS.drewN _), (hC.drewN _).setCell (fun _ => rfl) _, by have := HR2.out; unfold Hid; omega⟩
        case measure => rw [Scn.at1 hS, Scn.at1 (Scn.step (hS.drewN _))]; omega
    · have hd : decide ((k : Int) < (s.size : Int)) = false := by simp; omega
      have hr := runN_end blankB s k (by omega)
      have hR := hrel.out
      rw [hr] at hR
      have HR2 := Lib.hid hR
      clear hr hR
      go_wp2_with fail
      go_quiet (fail)
      go_wp2_with fail
      go_quiet (fail)
      go_wp2_with fail
      go_ret
      obtain rfl : k = R := HR2.out
      exact ⟨rfl, (hS.drewN _).drewN _, (hC.drewN _).drewN _⟩
set_option maxRecDepth 100000 in
set_option maxHeartbeats 1000000 in
theorem run_other (p : Nat) (s : ByteArray) (k0 : Nat) (c f : Int) (w : World) (h : Scn w p s k0 c f) (hk : k0 ≤ s.size) (hs : s.size ≤ 100000) :
    Calls Tryz.prog 191 #[.pointer (some ⟨p, 0, none⟩), .func (.func 193) #[] #[]] w
      fun e w' => e = .returned (.string (s.extract k0 (k0 + runN otherB (s.data.toList.drop k0)))) ∧ Scn w' p s (k0 + runN otherB (s.data.toList.drop k0)) c f ∧ Chg (fun i => i = p) w w' := by
  generalize hR : k0 + runN otherB (s.data.toList.drop k0) = R
  have HR := Lib.hid hR
  clear hR
  have c0 := h.cell 0
  have c1 := h.cell 1
  simp only [List.getElem?_toArray, List.getElem?_cons_zero, List.getElem?_cons_succ] at c0 c1
  go_enter Tryz.func191, Tryz.ntmps191
  go_wp2_with fail
  clear c0 c1
  go_loopw [] (fun wr => ∃ k : Nat, k0 ≤ k ∧ k ≤ s.size ∧ Scn wr p s k c f ∧ Chg (fun i => i = p) w wr ∧ Hid (k + runN otherB (s.data.toList.drop k) = R)) (fun wr => s.size - at1 wr p)
  case atStart => exact ⟨k0, by omega, hk, h, Chg.refl _ _, HR.out⟩
  case round =>
    obtain ⟨k, hk0, hk1, hS, hC, hrel⟩ := hrel
    have c0 := hS.cell 0
    have c1 := hS.cell 1
    have f1 := hS.frozen 1
    simp only [List.getElem?_toArray, List.getElem?_cons_zero, List.getElem?_cons_succ] at c0 c1
    by_cases hlt : k < s.size
    · have hd : decide ((k : Int) < (s.size : Int)) = true := by simp; omega
      cases hb : otherB (s[k].toNat : Int)
      · have cc := other_any (s[k].toNat : Int)
        rw [hb] at cc
        have CC := Lib.hid cc
        have hr := runN_stop otherB s k hlt hb
        have hR := hrel.out
        rw [hr] at hR
        have HR2 := Lib.hid hR
        clear hb cc hr hR
        go_wp2_with fail
        go_quiet ((go_at_call 193; exact Calls.quiet_of_same ((CC.out _).mono fun _ _ h => ⟨h.1, h.2.symm⟩)))
        go_wp2_with fail
        go_quiet (fail)
        go_wp2_with fail
        go_ret
        obtain rfl : k = R := HR2.out
        exact ⟨rfl, (hS.drewN _).drewN _, (hC.drewN _).drewN _⟩
      · have cc := other_any (s[k].toNat : Int)
        rw [hb] at cc
        have CC := Lib.hid cc
        have hr := runN_step otherB s k hlt hb
        have hR := hrel.out
        rw [hr] at hR
        have HR2 := Lib.hid hR
        clear hb cc hr hR
        go_wp2_with fail
        go_quiet ((go_at_call 193; exact Calls.quiet_of_same ((CC.out _).mono fun _ _ h => ⟨h.1, h.2.symm⟩)))
        go_wp2_with fail
        go_roundw
        case rel => exact ⟨k + 1, by omega, by omega, Scn.step (hS.drewN _), (hC.drewN _).setCell (fun _ => rfl) _, by have := HR2.out; unfold Hid; omega⟩
        case measure => rw [Scn.at1 hS, Scn.at1 (Scn.step (hS.drewN _))]; omega
    · have hd : decide ((k : Int) < (s.size : Int)) = false := by simp; omega
      have hr := runN_end otherB s k (by omega)
      have hR := hrel.out
      rw [hr] at hR
      have HR2 := Lib.hid hR
      clear hr hR
      go_wp2_with fail
      go_quiet (fail)
      go_wp2_with fail
      go_quiet (fail)
      go_wp2_with fail
      go_ret
      obtain rfl : k = R := HR2.out
      exact ⟨rfl, (hS.drewN _).drewN _, (hC.drewN _).drewN _⟩
end lex
end Go.Proofs.YtpcihajmcejliaaGreatDoor
