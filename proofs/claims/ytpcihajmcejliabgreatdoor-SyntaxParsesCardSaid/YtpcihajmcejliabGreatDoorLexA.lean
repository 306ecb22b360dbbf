/- The walks of package lex: bytes, runs, blanks. The walks of scanner.run, at each function that it is handed. What package lex makes of a text, in plain Lean. The walk of scanner.blanks. Rows of digits, in plain Lean: how the library's reading of a number and the comparison with the greatest one agree. -/
import Derived.Test.YtpcihajmcejliabGreatDoorProg
import Derived.Test.YtpcihajmcejliabGreatDoorBaseA
import Derived.BigQuiet
import Derived.Deep.QuietTactic
import Derived.Lib.ParseIntB
import Derived.Lib.SlTrimSet
namespace Go.Proofs.YtpcihajmcejliabGreatDoor
open Go.RowKit
def letterB (n : Int) : Bool := decide (97 ≤ n ∧ n ≤ 122 ∨ 65 ≤ n ∧ n ≤ 90)
def digitB (n : Int) : Bool := decide (48 ≤ n ∧ n ≤ 57)
def partB (n : Int) : Bool := letterB n || digitB n || decide (n = 95)
namespace lex
set_option maxHeartbeats 400000 in
theorem letter_any (n : Int) (w : World) :
    Calls Tryz.prog 214 #[.int .u8 n] w fun e w' => e = .returned (.bool (letterB n)) ∧ w = w' := by
  generalize hR : letterB n = R
  have HR := Lib.hid hR
  clear hR
  go_enter Tryz.func214, Tryz.ntmps214
  go_wp2
  all_goals go_ret
  all_goals exact ⟨ret_bool (by rw [← HR.out, letterB, Bool.eq_iff_iff]; simp; omega), rfl⟩
set_option maxHeartbeats 400000 in
theorem digit_any (n : Int) (w : World) :
    Calls Tryz.prog 216 #[.int .u8 n] w fun e w' => e = .returned (.bool (digitB n)) ∧ w = w' := by
  generalize hR : digitB n = R
  have HR := Lib.hid hR
  clear hR
  go_enter Tryz.func216, Tryz.ntmps216
  go_wp2
  all_goals go_ret
  all_goals exact ⟨ret_bool (by rw [← HR.out, digitB, Bool.eq_iff_iff]; simp; omega), rfl⟩
set_option maxHeartbeats 400000 in
theorem part_any (n : Int) (w : World) :
    Calls Tryz.prog 215 #[.int .u8 n] w fun e w' => e = .returned (.bool (partB n)) ∧ w = w' := by
  generalize hR : partB n = R
  have HR := Lib.hid hR
  clear hR
  obtain ⟨L, hL⟩ : ∃ L, letterB n = L := ⟨_, rfl⟩
  obtain ⟨D, hD⟩ : ∃ D, digitB n = D := ⟨_, rfl⟩
  have c1 := letter_any n
  have c2 := digit_any n
  rw [hL] at c1
  rw [hD] at c2
  have C1 := Lib.hid c1
  have C2 := Lib.hid c2
  have HL := Lib.hid hL
  have HD := Lib.hid hD
  clear c1 c2 hL hD
  cases L <;> cases D
  all_goals
    go_enter Tryz.func215, Tryz.ntmps215
    go_wp2_with (first | (refine (C1.out _).mono ?_; rintro e w' ⟨rfl, rfl⟩) | (refine (C2.out _).mono ?_; rintro e w' ⟨rfl, rfl⟩))
    all_goals go_ret
    all_goals exact ⟨ret_bool (by rw [← HR.out, partB, HL.out, HD.out, Bool.eq_iff_iff]; simp), rfl⟩
end lex
end Go.Proofs.YtpcihajmcejliabGreatDoor
namespace Go.Proofs.YtpcihajmcejliabGreatDoor
open Go.RowKit
/-- how many bytes from here on are of a kind -/
def runN (p : Int → Bool) (l : List UInt8) : Nat := (l.takeWhile fun c => p c.toNat).length
theorem runN_le (p : Int → Bool) (l : List UInt8) : runN p l ≤ l.length := by unfold runN; exact (List.takeWhile_sublist _).length_le
theorem runN_step (p : Int → Bool) (s : ByteArray) (k : Nat) (h : k < s.size) (hp : p (s[k].toNat : Int) = true) : runN p (s.data.toList.drop k) = 1 + runN p (s.data.toList.drop (k + 1)) := by
  rw [List.drop_eq_getElem_cons (by simpa using h)]
  have e : s.data.toList[k]'(by simpa using h) = s[k] := rfl
  simp only [runN, List.takeWhile_cons, e, hp, if_true, List.length_cons]
  omega
theorem runN_stop (p : Int → Bool) (s : ByteArray) (k : Nat) (h : k < s.size) (hp : p (s[k].toNat : Int) = false) : runN p (s.data.toList.drop k) = 0 := by
  rw [List.drop_eq_getElem_cons (by simpa using h)]
  have e : s.data.toList[k]'(by simpa using h) = s[k] := rfl
  simp [runN, e, hp]
theorem runN_end (p : Int → Bool) (s : ByteArray) (k : Nat) (h : s.size ≤ k) : runN p (s.data.toList.drop k) = 0 := by
  rw [List.drop_eq_nil_of_le (by simpa using h)]
  rfl
def blankB (n : Int) : Bool := decide (n = 32 ∨ n = 10)
def otherB (n : Int) : Bool := decide (n ≠ 10)
namespace lex
/-- the scanner at its block -/
abbrev Scn (w : World) (p : Nat) (s : ByteArray) (k : Nat) (c f : Int) : Prop := Blk w p #[.string s, .int .i64 k, .int .i64 c, .int .i64 f] 237
theorem Scn.step {w : World} {p : Nat} {s : ByteArray} {k : Nat} {c f : Int} (h : Scn w p s k c f) : Scn (w.setCell ⟨p, 1, none⟩ (.int .i64 (k + 1))) p s (k + 1) c f := h.set 1 _
def at1 (w : World) (p : Nat) : Nat := (intOf ((w.cell? ⟨p, 1, none⟩).getD undef)).toNat
theorem Scn.at1 {w : World} {p : Nat} {s : ByteArray} {k : Nat} {c f : Int} (h : Scn w p s k c f) : at1 w p = k := by
  unfold lex.at1
  rw [h.cell 1]
  simp [intOf]
set_option maxHeartbeats 400000 in
theorem blank_any (n : Int) (w : World) :
    Calls Tryz.prog 212 #[.int .u8 n] w fun e w' => e = .returned (.bool (blankB n)) ∧ w = w' := by
  generalize hR : blankB n = R
  have HR := Lib.hid hR
  clear hR
  go_enter Tryz.func212, Tryz.ntmps212
  go_wp2
  all_goals go_ret
  all_goals exact ⟨ret_bool (by rw [← HR.out, blankB, Bool.eq_iff_iff]; simp; try omega), rfl⟩
set_option maxHeartbeats 400000 in
theorem other_any (n : Int) (w : World) :
    Calls Tryz.prog 213 #[.int .u8 n] w fun e w' => e = .returned (.bool (otherB n)) ∧ w = w' := by
  generalize hR : otherB n = R
  have HR := Lib.hid hR
  clear hR
  go_enter Tryz.func213, Tryz.ntmps213
  go_wp2
  all_goals go_ret
  all_goals exact ⟨ret_bool (by rw [← HR.out, otherB, Bool.eq_iff_iff]; simp), rfl⟩
set_option maxRecDepth 100000 in
set_option maxHeartbeats 1000000 in
theorem run_part (p : Nat) (s : ByteArray) (k0 : Nat) (c f : Int) (w : World) (h : Scn w p s k0 c f) (hk : k0 ≤ s.size) (hs : s.size ≤ 100000) :
    Calls Tryz.prog 211 #[.pointer (some ⟨p, 0, none⟩), .func (.func 215) #[] #[]] w
      fun e w' => e = .returned (.string (s.extract k0 (k0 + runN partB (s.data.toList.drop k0)))) ∧ Scn w' p s (k0 + runN partB (s.data.toList.drop k0)) c f ∧ Chg (fun i => i = p) w w' := by
  generalize hR : k0 + runN partB (s.data.toList.drop k0) = R
  have HR := Lib.hid hR
  clear hR
  have c0 := h.cell 0
  have c1 := h.cell 1
  simp only [List.getElem?_toArray, List.getElem?_cons_zero, List.getElem?_cons_succ] at c0 c1
  go_enter Tryz.func211, Tryz.ntmps211
  go_wp2_with fail
  clear c0 c1
  go_loopw [] (fun wr => ∃ k : Nat, k0 ≤ k ∧ k ≤ s.size ∧ Scn wr p s k c f ∧ Chg (fun i => i = p) w wr ∧ Hid (k + runN partB (s.data.toList.drop k) = R)) (fun wr => s.size - at1 wr p)
  case atStart => exact ⟨k0, by omega, hk, h, Chg.refl _ _, HR.out⟩
  case round =>
    obtain ⟨k, hk0, hk1, hS, hC, hrel⟩ := hrel
    have c0 := hS.cell 0
    have c1 := hS.cell 1
    have f1 := hS.frozen 1
    simp only [List.getElem?_toArray, List.getElem?_cons_zero, List.getElem?_cons_succ] at c0 c1
    by_cases hlt : k < s.size
    · have hd : decide ((k : Int) < (s.size : Int)) = true := by simp; omega
      cases hb : partB (s[k].toNat : Int)
      · have cc := part_any (s[k].toNat : Int)
        rw [hb] at cc
        have CC := Lib.hid cc
        have hr := runN_stop partB s k hlt hb
        have hR := hrel.out
        rw [hr] at hR
        have HR2 := Lib.hid hR
        clear hb cc hr hR
        go_wp2_with fail
        go_quiet ((go_at_call 215; exact Calls.quiet_of_same ((CC.out _).mono fun _ _ h => ⟨h.1, h.2.symm⟩)))
        go_wp2_with fail
        go_quiet (fail)
        go_wp2_with fail
        go_ret
        obtain rfl : k = R := HR2.out
        exact ⟨rfl, (hS.drewN _).drewN _, (hC.drewN _).drewN _⟩
      · have cc := part_any (s[k].toNat : Int)
        rw [hb] at cc
        have CC := Lib.hid cc
        have hr := runN_step partB s k hlt hb
        have hR := hrel.out
        rw [hr] at hR
        have HR2 := Lib.hid hR
        clear hb cc hr hR
        go_wp2_with fail
        go_quiet ((go_at_call 215; exact Calls.quiet_of_same ((CC.out _).mono fun _ _ h => ⟨h.1, h.2.symm⟩)))
        go_wp2_with fail
        go_roundw
        case rel => exact ⟨k + 1, by omega, by omega, Scn.step (hS.drewN _), (hC.drewN _).setCell (fun _ => rfl) _, by have := HR2.out; unfold Hid; omega⟩
        case measure => rw [Scn.at1 hS, Scn.at1 (Scn.step (hS.drewN _))]; omega
    · have hd : decide ((k : Int) < (s.size : Int)) = false := by simp; omega
      have hr := runN_end partB s k (by omega)
      have hR := hrel.out
      rw [hr] at hR
      have HR2 := Lib.hid hR
      clear hr hR
      go_wp2_with fail
      go_quiet (fail)
      go_wp2_with fail
      go_quiet (fail)
      go_wp2_with fail
      go_ret
      obtain rfl : k = R := HR2.out
      exact ⟨rfl, (hS.drewN _).drewN _, (hC.drewN _).drewN _⟩
set_option maxRecDepth 100000 in
set_option maxHeartbeats 1000000 in
theorem run_blank (p : Nat) (s : ByteArray) (k0 : Nat) (c f : Int) (w : World) (h : Scn w p s k0 c f) (hk : k0 ≤ s.size) (hs : s.size ≤ 100000) :
    Calls Tryz.prog 211 #[.pointer (some ⟨p, 0, none⟩), .func (.func 212) #[] #[]] w
      fun e w' => e = .returned (.string (s.extract k0 (k0 + runN blankB (s.data.toList.drop k0)))) ∧ Scn w' p s (k0 + runN blankB (s.data.toList.drop k0)) c f ∧ Chg (fun i => i = p) w w' := by
  generalize hR : k0 + runN blankB (s.data.toList.drop k0) = R
  have HR := Lib.hid hR
  clear hR
  have c0 := h.cell 0
  have c1 := h.cell 1
  simp only [List.getElem?_toArray, List.getElem?_cons_zero, List.getElem?_cons_succ] at c0 c1
  go_enter Tryz.func211, Tryz.ntmps211
  go_wp2_with fail
  clear c0 c1
  go_loopw [] (fun wr => ∃ k : Nat, k0 ≤ k ∧ k ≤ s.size ∧ Scn wr p s k c f ∧ Chg (fun i => i = p) w wr ∧ Hid (k + runN blankB (s.data.toList.drop k) = R)) (fun wr => s.size - at1 wr p)
  case atStart => exact ⟨k0, by omega, hk, h, Chg.refl _ _, HR.out⟩
  case round =>
    obtain ⟨k, hk0, hk1, hS, hC, hrel⟩ := hrel
    have c0 := hS.cell 0
    have c1 := hS.cell 1
    have f1 := hS.frozen 1
    simp only [List.getElem?_toArray, List.getElem?_cons_zero, List.getElem?_cons_succ] at c0 c1
    by_cases hlt : k < s.size
    · have hd : decide ((k : Int) < (s.size : Int)) = true := by simp; omega
      cases hb : blankB (s[k].toNat : Int)
      · have cc := blank_any (s[k].toNat : Int)
        rw [hb] at cc
        have CC := Lib.hid cc
        have hr := runN_stop blankB s k hlt hb
        have hR := hrel.out
        rw [hr] at hR
        have HR2 := Lib.hid hR
        clear hb cc hr hR
        go_wp2_with fail
        go_quiet ((go_at_call 212; exact Calls.quiet_of_same ((CC.out _).mono fun _ _ h => ⟨h.1, h.2.symm⟩)))
        go_wp2_with fail
        go_quiet (fail)
        go_wp2_with fail
        go_ret
        obtain rfl : k = R := HR2.out
        exact ⟨rfl, (hS.drewN _).drewN _, (hC.drewN _).drewN _⟩
      · have cc := blank_any (s[k].toNat : Int)
        rw [hb] at cc
        have CC := Lib.hid cc
        have hr := runN_step blankB s k hlt hb
        have hR := hrel.out
        rw [hr] at hR
        have HR2 := Lib.hid hR
        clear hb cc hr hR
        go_wp2_with fail
        go_quiet ((go_at_call 212; exact Calls.quiet_of_same ((CC.out _).mono fun _ _ h => ⟨h.1, h.2.symm⟩)))
        go_wp2_with fail
        go_roundw
        case rel => exact ⟨k + 1, by omega, by omega, Scn.step (hS.drewN _), (hC.drewN _).setCell (fun _ => rfl) _, by have := HR2.out; unfold Hid; omega⟩
        case measure => rw [Scn.at1 hS, Scn.at1 (Scn.step (hS.drewN _))]; omega
    · have hd : decide ((k : Int) < (s.size : Int)) = false := by simp; omega
      have hr := runN_end blankB s k (by omega)
      have hR := hrel.out
      rw [hr] at hR
      have HR2 := Lib.hid hR
      clear hr hR
      go_wp2_with fail
      go_quiet (fail)
      go_wp2_with fail
      go_quiet (fail)
      go_wp2_with fail
      go_ret
      obtain rfl : k = R := HR2.out
      exact ⟨rfl, (hS.drewN _).drewN _, (hC.drewN _).drewN _⟩
set_option maxRecDepth 100000 in
set_option maxHeartbeats 1000000 in
theorem run_other (p : Nat) (s : ByteArray) (k0 : Nat) (c f : Int) (w : World) (h : Scn w p s k0 c f) (hk : k0 ≤ s.size) (hs : s.size ≤ 100000) :
    Calls Tryz.prog 211 #[.pointer (some ⟨p, 0, none⟩), .func (.func 213) #[] #[]] w
      fun e w' => e = .returned (.string (s.extract k0 (k0 + runN otherB (s.data.toList.drop k0)))) ∧ Scn w' p s (k0 + runN otherB (s.data.toList.drop k0)) c f ∧ Chg (fun i => i = p) w w' := by
  generalize hR : k0 + runN otherB (s.data.toList.drop k0) = R
  have HR := Lib.hid hR
  clear hR
  have c0 := h.cell 0
  have c1 := h.cell 1
  simp only [List.getElem?_toArray, List.getElem?_cons_zero, List.getElem?_cons_succ] at c0 c1
  go_enter Tryz.func211, Tryz.ntmps211
  go_wp2_with fail
  clear c0 c1
  go_loopw [] (fun wr => ∃ k : Nat, k0 ≤ k ∧ k ≤ s.size ∧ Scn wr p s k c f ∧ Chg (fun i => i = p) w wr ∧ Hid (k + runN otherB (s.data.toList.drop k) = R)) (fun wr => s.size - at1 wr p)
  case atStart => exact ⟨k0, by omega, hk, h, Chg.refl _ _, HR.out⟩
  case round =>
    obtain ⟨k, hk0, hk1, hS, hC, hrel⟩ := hrel
    have c0 := hS.cell 0
    have c1 := hS.cell 1
    have f1 := hS.frozen 1
    simp only [List.getElem?_toArray, List.getElem?_cons_zero, List.getElem?_cons_succ] at c0 c1
    by_cases hlt : k < s.size
    · have hd : decide ((k : Int) < (s.size : Int)) = true := by simp; omega
      cases hb : otherB (s[k].toNat : Int)
      · have cc := other_any (s[k].toNat : Int)
        rw [hb] at cc
        have CC := Lib.hid cc
        have hr := runN_stop otherB s k hlt hb
        have hR := hrel.out
        rw [hr] at hR
        have HR2 := Lib.hid hR
        clear hb cc hr hR
        go_wp2_with fail
        go_quiet ((go_at_call 213; exact Calls.quiet_of_same ((CC.out _).mono fun _ _ h => ⟨h.1, h.2.symm⟩)))
        go_wp2_with fail
        go_quiet (fail)
        go_wp2_with fail
        go_ret
        obtain rfl : k = R := HR2.out
        exact ⟨rfl, (hS.drewN _).drewN _, (hC.drewN _).drewN _⟩
      · have cc := other_any (s[k].toNat : Int)
        rw [hb] at cc
        have CC := Lib.hid cc
        have hr := runN_step otherB s k hlt hb
        have hR := hrel.out
        rw [hr] at hR
        have HR2 := Lib.hid hR
        clear hb cc hr hR
        go_wp2_with fail
        go_quiet ((go_at_call 213; exact Calls.quiet_of_same ((CC.out _).mono fun _ _ h => ⟨h.1, h.2.symm⟩)))
        go_wp2_with fail
        go_roundw
        case rel => exact ⟨k + 1, by omega, by omega, Scn.step (hS.drewN _), (hC.drewN _).setCell (fun _ => rfl) _, by have := HR2.out; unfold Hid; omega⟩
        case measure => rw [Scn.at1 hS, Scn.at1 (Scn.step (hS.drewN _))]; omega
    · have hd : decide ((k : Int) < (s.size : Int)) = false := by simp; omega
      have hr := runN_end otherB s k (by omega)
      have hR := hrel.out
      rw [hr] at hR
      have HR2 := Lib.hid hR
      clear hr hR
      go_wp2_with fail
      go_quiet (fail)
      go_wp2_with fail
      go_quiet (fail)
      go_wp2_with fail
      go_ret
      obtain rfl : k = R := HR2.out
      exact ⟨rfl, (hS.drewN _).drewN _, (hC.drewN _).drewN _⟩
end lex
end Go.Proofs.YtpcihajmcejliabGreatDoor
namespace Go.Proofs.YtpcihajmcejliabGreatDoor
open Go.RowKit
/-- how many bytes are passed over; true: in a remark -/
def skipB : Bool → List UInt8 → Nat
  | _, [] => 0
  | false, c :: r => if c = 32 ∨ c = 10 then 1 + skipB false r else if c = 35 then 1 + skipB true r else 0
  | true, c :: r => if c = 10 then 1 + skipB false r else 1 + skipB true r
theorem skip_le (l : List UInt8) : ∀ b, skipB b l ≤ l.length := by
  induction l with
  | nil => intro b; cases b <;> simp [skipB]
  | cons c r ih =>
    intro b
    have h1 := ih true
    have h2 := ih false
    cases b <;> simp only [skipB, List.length_cons] <;> repeat' split
    all_goals omega
theorem u8_int (c d : UInt8) : ((c.toNat : Int) = d.toNat) ↔ c = d := by
  constructor
  · intro h; exact UInt8.toNat_inj.1 (by omega)
  · intro h; rw [h]
theorem blankB_iff (c : UInt8) : blankB c.toNat = true ↔ c = 32 ∨ c = 10 := by
  have h1 := u8_int c 32
  have h2 := u8_int c 10
  simp only [blankB, decide_eq_true_eq]
  exact or_congr h1 h2
theorem otherB_iff (c : UInt8) : otherB c.toNat = true ↔ ¬ c = 10 := by
  have h2 := u8_int c 10
  simp only [otherB, decide_eq_true_eq]
  exact not_congr h2
theorem skip_blanks (l : List UInt8) : skipB false l = runN blankB l + skipB false (l.drop (runN blankB l)) := by
  induction l with
  | nil => simp [skipB, runN]
  | cons c r ih =>
    by_cases h : blankB c.toNat = true
    · have e : runN blankB (c :: r) = runN blankB r + 1 := by simp [runN, h]
      have h' := (blankB_iff c).1 h
      rw [e, List.drop_succ_cons]
      simp only [skipB, if_pos h']
      omega
    · have e : runN blankB (c :: r) = 0 := by simp [runN, h]
      rw [e]
      simp
theorem skip_remark (l : List UInt8) : skipB true l = runN otherB l + skipB false (l.drop (runN otherB l)) := by
  induction l with
  | nil => simp [skipB, runN]
  | cons c r ih =>
    by_cases h : otherB c.toNat = true
    · have e : runN otherB (c :: r) = runN otherB r + 1 := by simp [runN, h]
      have h' := (otherB_iff c).1 h
      rw [e, List.drop_succ_cons]
      simp only [skipB, if_neg h']
      omega
    · have e : runN otherB (c :: r) = 0 := by simp [runN, h]
      have h' : c = 10 := by
        cases Decidable.em (c = 10) with
        | inl h0 => exact h0
        | inr h0 => exact absurd ((otherB_iff c).2 h0) h
      subst h'
      rw [e]
      simp [skipB]
theorem skip_hash (r : List UInt8) : skipB false (35 :: r) = skipB true (35 :: r) := by simp [skipB]
theorem skip_stop (c : UInt8) (r : List UInt8) (h : ¬ (c = 32 ∨ c = 10)) (h' : c ≠ 35) : skipB false (c :: r) = 0 := by
  simp only [skipB, if_neg h, if_neg h']
end Go.Proofs.YtpcihajmcejliabGreatDoor
namespace Go.Proofs.YtpcihajmcejliabGreatDoor
open Go.RowKit
namespace lex
theorem drop_cons (s : ByteArray) (k : Nat) (h : k < s.size) : s.data.toList.drop k = s[k] :: s.data.toList.drop (k + 1) := by
  rw [List.drop_eq_getElem_cons (by simpa using h)]
  rfl
theorem runN_room (p : Int → Bool) (s : ByteArray) (k : Nat) (h : k ≤ s.size) : k + runN p (s.data.toList.drop k) ≤ s.size := by
  have := runN_le p (s.data.toList.drop k)
  simp only [List.length_drop, Array.length_toList] at this
  have e : s.data.size = s.size := rfl
  omega
theorem run_next_blank (s : ByteArray) (k k1 : Nat) (hk : k + runN blankB (s.data.toList.drop k) = k1) (h : k1 < s.size) : ¬ blankB (s[k1].toNat) = true := by
  subst hk
  have key : ∀ (l : List UInt8) (h : runN blankB l < l.length), ¬ blankB (l[runN blankB l].toNat) = true := by
    intro l
    induction l with
    | nil => intro h; simp [runN] at h
    | cons c r ih =>
      intro h
      by_cases hc : blankB c.toNat = true
      · have e : runN blankB (c :: r) = runN blankB r + 1 := by simp [runN, hc]
        simp only [e, List.getElem_cons_succ]
        exact ih (by simp only [e, List.length_cons] at h; omega)
      · have e : runN blankB (c :: r) = 0 := by simp [runN, hc]
        simpa only [e, List.getElem_cons_zero] using hc
  have h2 := key (s.data.toList.drop k) (by simp only [List.length_drop, Array.length_toList]; have e : s.data.size = s.size := rfl; omega)
  simp only [List.getElem_drop] at h2
  exact h2
set_option maxRecDepth 100000 in
set_option maxHeartbeats 1000000 in
theorem blanks_any (p : Nat) (s : ByteArray) (k0 : Nat) (c f : Int) (w : World) (h : Scn w p s k0 c f) (hk : k0 ≤ s.size) (hs : s.size ≤ 100000) :
    Calls Tryz.prog 146 #[.pointer (some ⟨p, 0, none⟩)] w
      fun e w' => e = .returned (.tuple #[]) ∧ Scn w' p s (k0 + skipB false (s.data.toList.drop k0)) c f ∧ Chg (fun i => i = p) w w' := by
  generalize hR : k0 + skipB false (s.data.toList.drop k0) = R
  have HR := Lib.hid hR
  clear hR
  go_enter Tryz.func146, Tryz.ntmps146
  go_wp2_with fail
  go_loopw [] (fun wr => ∃ k : Nat, k ≤ s.size ∧ Scn wr p s k c f ∧ Chg (fun i => i = p) w wr ∧ Hid (k + skipB false (s.data.toList.drop k) = R)) (fun wr => s.size - at1 wr p)
  case atStart => exact ⟨k0, hk, h, Chg.refl _ _, HR.out⟩
  case round =>
    obtain ⟨k, hk1, hS, hC, hrel⟩ := hrel
    have hm := Scn.at1 hS
    have HM := Lib.hid hm
    clear hm
    go_wp2_with fail
    refine (run_blank p s k c f _ hS hk1 hs).mono ?_
    rintro e w1 ⟨rfl, hS1, hC1⟩
    have hle := runN_room blankB s k hk1
    have hsk := skip_blanks (s.data.toList.drop k)
    rw [List.drop_drop] at hsk
    have hR1 := hrel.out
    rw [hsk, ← Nat.add_assoc] at hR1
    have hge : k ≤ k + runN blankB (s.data.toList.drop k) := by omega
    obtain ⟨k1, hk1e⟩ : ∃ k1, k + runN blankB (s.data.toList.drop k) = k1 := ⟨_, rfl⟩
    have hnb := run_next_blank s k k1 hk1e
    simp only [hk1e] at hS1 hle hR1 hge ⊢
    have HR1 := Lib.hid hR1
    have HN := Lib.hid hnb
    clear hR1 hsk hnb hk1e
    have c0 := hS1.cell 0
    have c1 := hS1.cell 1
    simp only [List.getElem?_toArray, List.getElem?_cons_zero, List.getElem?_cons_succ] at c0 c1
    have hC2 := hC.then hC1
    clear hC hC1 hS
    by_cases hlt : k1 < s.size
    · by_cases hh : (s[k1].toNat : Int) = 35
      · have hd : decide ((s.size : Int) ≤ (k1 : Int)) = false := by simp; omega
        have hb : ((s[k1].toNat : Int) != 35) = false := by rw [hh]; rfl
        have h35 : s[k1] = 35 := (u8_int _ 35).1 hh
        have HH := Lib.hid h35
        clear hh h35
        go_wp2_with fail
        go_quiet (fail)
        go_wp2_with fail
        refine (run_other p s k1 c f _ (hS1.drewN _) hle hs).mono ?_
        rintro e w2 ⟨rfl, hS2, hC3⟩
        go_wp2_with fail
        go_roundw
        case rel =>
          refine ⟨_, runN_room otherB s k1 hle, hS2, (hC2.drewN _).then hC3, ?_⟩
          have := HR1.out
          rw [drop_cons s k1 hlt, HH.out, skip_hash, ← HH.out, ← drop_cons s k1 hlt, skip_remark, List.drop_drop] at this
          unfold Hid
          omega
        case measure =>
          rw [HM.out, Scn.at1 hS2]
          have : runN otherB (s.data.toList.drop k1) = 1 + runN otherB (s.data.toList.drop (k1 + 1)) := runN_step otherB s k1 hlt (by rw [HH.out]; rfl)
          omega
      · have hd : decide ((s.size : Int) ≤ (k1 : Int)) = false := by simp; omega
        have hb : ((s[k1].toNat : Int) != 35) = true := by rw [bne_iff_ne]; exact hh
        have HH := Lib.hid hh
        clear hh
        go_wp2_with fail
        go_quiet (fail)
        go_wp2_with fail
        (try simp only [Exit.inBlock, Exit.then]); refine bodyPost_ret (results_none rfl _ _ _) rfl ?_
        have e : k1 = R := by
          have := HR1.out
          rw [drop_cons s k1 hlt, skip_stop _ _ (fun h => HN.out hlt ((blankB_iff _).2 h)) (fun h => HH.out (by rw [h]; rfl))] at this
          omega
        subst e
        exact ⟨rfl, hS1.drewN _, hC2.drewN _⟩
    · have hd : decide ((s.size : Int) ≤ (k1 : Int)) = true := by simp; omega
      go_wp2_with fail
      go_quiet (fail)
      go_wp2_with fail
      (try simp only [Exit.inBlock, Exit.then]); refine bodyPost_ret (results_none rfl _ _ _) rfl ?_
      have e : k1 = R := by
        have := HR1.out
        rw [List.drop_eq_nil_of_le (by have e : s.data.size = s.size := rfl; simp; omega)] at this
        simpa [skipB] using this
      subst e
      exact ⟨rfl, hS1.drewN _, hC2.drewN _⟩
end lex
end Go.Proofs.YtpcihajmcejliabGreatDoor
namespace Go.Proofs.YtpcihajmcejliabGreatDoor
open Go.RowKit
def dstep (acc : Nat) (c : UInt8) : Nat := acc * 10 + (c.toNat - 48)
theorem dstep_eq (acc : Nat) (c : UInt8) : dstep acc c = acc * 10 + (c.toNat - 48) := by unfold dstep; exact Eq.refl _
attribute [irreducible] dstep
def decFrom (acc : Nat) (l : List UInt8) : Nat := l.foldl dstep acc
def digs (l : List UInt8) : Bool := l.all fun c => digitB c.toNat
/-- what is wrong with a row that begins with a digit -/
def numeralF (l : List UInt8) : Int := if digs l = false then 2 else if 1 < l.length ∧ l.head? = some 48 then 2 else if 9223372036854775808 ≤ decFrom 0 l then 6 else 0
theorem digitB_iff (c : UInt8) : digitB c.toNat = true ↔ 48 ≤ c.toNat ∧ c.toNat ≤ 57 := by
  simp only [digitB, decide_eq_true_eq]; omega
theorem digs_cons (c : UInt8) (r : List UInt8) : digs (c :: r) = true ↔ (48 ≤ c.toNat ∧ c.toNat ≤ 57) ∧ digs r = true := by
  simp only [digs, List.all_cons, Bool.and_eq_true, digitB_iff]
theorem mulstep (acc d p q : Nat) : (acc * 10 + d) * p + q = acc * (p * 10) + (d * p + q) := by
  rw [Nat.add_mul, Nat.mul_assoc, Nat.mul_comm 10 p]
  omega
theorem decFrom_step (acc : Nat) (c : UInt8) (r : List UInt8) : decFrom acc (c :: r) = decFrom (acc * 10 + (c.toNat - 48)) r := by
  unfold decFrom
  rw [List.foldl_cons, dstep_eq]
theorem decFrom_eq (l : List UInt8) : ∀ acc, decFrom acc l = acc * 10 ^ l.length + decFrom 0 l := by
  induction l with
  | nil => intro acc; simp [decFrom]
  | cons c r ih =>
    intro acc
    rw [decFrom_step, decFrom_step 0, ih, ih (0 * 10 + (c.toNat - 48)), List.length_cons, Nat.pow_succ]
    generalize 10 ^ r.length = p
    generalize decFrom 0 r = q
    generalize c.toNat - 48 = d
    rw [mulstep, Nat.zero_mul, Nat.zero_add]
theorem decFrom_ge (l : List UInt8) (acc : Nat) : acc ≤ decFrom acc l := by
  rw [decFrom_eq]
  have : 0 < 10 ^ l.length := Nat.pow_pos (by omega)
  have := Nat.le_mul_of_pos_right acc this
  omega
theorem decFrom_lt (l : List UInt8) (h : digs l = true) : decFrom 0 l < 10 ^ l.length := by
  induction l with
  | nil => simp [decFrom]
  | cons c r ih =>
    obtain ⟨hc, hr⟩ := (digs_cons c r).1 h
    have := ih hr
    rw [decFrom_step, List.length_cons, decFrom_eq, Nat.pow_succ]
    have h1 : (0 * 10 + (c.toNat - 48)) * 10 ^ r.length ≤ 9 * 10 ^ r.length := Nat.mul_le_mul_right _ (by omega)
    omega
theorem decFrom_head (c : UInt8) (r : List UInt8) (h : 49 ≤ c.toNat) : 10 ^ r.length ≤ decFrom 0 (c :: r) := by
  rw [decFrom_step, decFrom_eq]
  have h1 : 1 * 10 ^ r.length ≤ (0 * 10 + (c.toNat - 48)) * 10 ^ r.length := Nat.mul_le_mul_right _ (by omega)
  omega
theorem less_iff (l : List UInt8) : ∀ m, l.length = m.length → digs l = true → digs m = true → (Op.bytesLess l m = true ↔ decFrom 0 l < decFrom 0 m) := by
  induction l with
  | nil => intro m h _ _; cases m with | nil => simp [Op.bytesLess, decFrom] | cons _ _ => simp at h
  | cons c r ih =>
    intro m h hl hm
    cases m with
    | nil => simp at h
    | cons d q =>
      obtain ⟨hc, hr⟩ := (digs_cons c r).1 hl
      obtain ⟨hd, hq⟩ := (digs_cons d q).1 hm
      have hlen : r.length = q.length := by simpa using h
      have b1 := decFrom_lt r hr
      have b2 := decFrom_lt q hq
      simp only [Op.bytesLess, decFrom_step, Bool.or_eq_true, Bool.and_eq_true, decide_eq_true_eq, beq_iff_eq, ih q hlen hr hq]
      rw [decFrom_eq r (0 * 10 + (c.toNat - 48)), decFrom_eq q (0 * 10 + (d.toNat - 48)), UInt8.lt_iff_toNat_lt, ← UInt8.toNat_inj]
      rw [← hlen] at b2 ⊢
      generalize 10 ^ r.length = p at *
      rcases Nat.lt_trichotomy c.toNat d.toNat with hlt | he | hgt
      · have : (0 * 10 + (c.toNat - 48) + 1) * p ≤ (0 * 10 + (d.toNat - 48)) * p := Nat.mul_le_mul_right _ (by omega)
        rw [Nat.add_mul] at this
        constructor
        · intro _; omega
        · intro _; exact .inl hlt
      · rw [he]
        constructor
        · rintro (h | ⟨_, h⟩) <;> omega
        · intro h; exact .inr ⟨rfl, by omega⟩
      · have : (0 * 10 + (d.toNat - 48) + 1) * p ≤ (0 * 10 + (c.toNat - 48)) * p := Nat.mul_le_mul_right _ (by omega)
        rw [Nat.add_mul] at this
        constructor
        · rintro (h | ⟨h, _⟩) <;> omega
        · intro _; omega
theorem uint_digits (l : List UInt8) : ∀ acc, digs l = true → acc ≤ 18446744073709551615 → Lib.parseUintM 18446744073709551615 acc l = if decFrom acc l ≤ 18446744073709551615 then .ok (decFrom acc l) else .range := by
  induction l with
  | nil => intro acc _ h; simp [Lib.parseUintM, decFrom, h]
  | cons c r ih =>
    intro acc h hacc
    obtain ⟨hc, hr⟩ := (digs_cons c r).1 h
    rw [decFrom_step]
    simp only [Lib.parseUintM, if_pos hc]
    have hge := decFrom_ge r (acc * 10 + (c.toNat - 48))
    by_cases h1 : 1844674407370955162 ≤ acc
    · rw [if_pos h1, if_neg (by omega)]
    · rw [if_neg h1]
      by_cases h2 : 18446744073709551615 < acc * 10 + (c.toNat - 48)
      · rw [if_pos h2, if_neg (by omega)]
      · rw [if_neg h2]
        exact ih _ hr (by omega)
theorem int_digits (l : List UInt8) (h : digs l = true) (hn : l ≠ []) : Lib.parseIntB 64 l = if decFrom 0 l < 9223372036854775808 then .ok (decFrom 0 l : Int) else .range := by
  cases l with
  | nil => exact absurd rfl hn
  | cons c r =>
    obtain ⟨hc, _⟩ := (digs_cons c r).1 h
    have e := uint_digits (c :: r) 0 h (by omega)
    have n1 : ¬ (c.toNat = 43 ∨ c.toNat = 45) := by omega
    have n2 : ¬ c.toNat = 45 := by omega
    have e2 : Lib.parseUintB 64 (c :: r) = Lib.parseUintM 18446744073709551615 0 (c :: r) := by
      rw [Lib.parseUintB, if_neg hn]
    simp only [Lib.parseIntB, if_neg n1, e2, e]
    by_cases h1 : decFrom 0 (c :: r) ≤ 18446744073709551615
    · rw [if_pos h1]
      have e3 : (2 : Nat) ^ (64 - 1) = 9223372036854775808 := by decide
      simp only [n2, not_false_eq_true, true_and, e3, false_and, if_false]
      by_cases h2 : 9223372036854775808 ≤ decFrom 0 (c :: r)
      · rw [if_pos h2, if_neg (by omega)]
      · rw [if_neg h2, if_pos (by omega)]
    · rw [if_neg h1, if_neg (by omega)]
theorem dropWhile_nil_iff {α : Type} (p : α → Bool) (l : List α) : l.dropWhile p = [] ↔ ∀ x ∈ l, p x = true := by
  induction l with
  | nil => simp
  | cons a r ih =>
    by_cases h : p a = true
    · simp [h, ih]
    · simp [h]
theorem ten_contains (c : UInt8) : ([48, 49, 50, 51, 52, 53, 54, 55, 56, 57] : List UInt8).contains c = digitB c.toNat := by
  rw [Bool.eq_iff_iff, digitB_iff]
  simp only [List.contains_cons, List.contains_nil, Bool.or_false, Bool.or_eq_true, beq_iff_eq, ← UInt8.toNat_inj]
  have e : ∀ n, n < 256 → (UInt8.ofNat n).toNat = n := fun n h => by simp; omega
  have := c.toNat_lt
  show _ = 48 ∨ _ = 49 ∨ _ = 50 ∨ _ = 51 ∨ _ = 52 ∨ _ = 53 ∨ _ = 54 ∨ _ = 55 ∨ _ = 56 ∨ _ = 57 ↔ _
  omega
theorem trim_digits (l : List UInt8) : Lib.trimS l [48, 49, 50, 51, 52, 53, 54, 55, 56, 57] = [] ↔ digs l = true := by
  have e : (fun x => ([48, 49, 50, 51, 52, 53, 54, 55, 56, 57] : List UInt8).contains x) = fun c => digitB c.toNat := funext ten_contains
  simp only [Lib.trimS, Lib.trimLeftS, Lib.trimRightS, e]
  constructor
  · intro h
    rw [dropWhile_nil_iff] at h
    simp only [digs, List.all_eq_true]
    cases hd : List.dropWhile (fun c : UInt8 => digitB c.toNat) l.reverse with
    | nil =>
      rw [dropWhile_nil_iff] at hd
      intro x hx
      exact hd x (by simpa using hx)
    | cons x xs =>
      have h1 := h x (by rw [hd]; simp)
      have h2 := List.head_dropWhile_not (fun c : UInt8 => digitB c.toNat) (l := l.reverse) (by rw [hd]; simp)
      simp only [hd, List.head_cons] at h2
      rw [h1] at h2
      cases h2
  · intro h
    simp only [digs, List.all_eq_true] at h
    have : List.dropWhile (fun c : UInt8 => digitB c.toNat) l.reverse = [] := by
      rw [dropWhile_nil_iff]
      intro x hx
      exact h x (by simpa using hx)
    rw [this]
    rfl
end Go.Proofs.YtpcihajmcejliabGreatDoor
