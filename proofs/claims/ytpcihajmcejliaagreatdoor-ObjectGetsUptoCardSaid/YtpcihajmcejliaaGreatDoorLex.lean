/- The walks of package lex: bytes, runs, blanks. -/
import Derived.Test.YtpcihajmcejliaaGreatDoorProg
import Derived.Test.YtpcihajmcejliaaGreatDoorFrame
import Derived.BigQuiet
import Derived.Deep.QuietTactic
namespace Go.Proofs.YtpcihajmcejliaaGreatDoor
open Go.RowKit
def letterB (n : Int) : Bool := decide (97 ≤ n ∧ n ≤ 122 ∨ 65 ≤ n ∧ n ≤ 90)
def digitB (n : Int) : Bool := decide (48 ≤ n ∧ n ≤ 57)
def partB (n : Int) : Bool := letterB n || digitB n || decide (n = 95)
namespace lex
set_option maxHeartbeats 400000 in
theorem letter_any (n : Int) (w : World) :
    Calls Tryz.prog 194 #[.int .u8 n] w fun e w' => e = .returned (.bool (letterB n)) ∧ w = w' := by
  generalize hR : letterB n = R
  have HR := Lib.hid hR
  clear hR
  go_enter Tryz.func194, Tryz.ntmps194
  go_wp2
  all_goals go_ret
  all_goals exact ⟨ret_bool (by rw [← HR.out, letterB, Bool.eq_iff_iff]; simp; omega), rfl⟩
set_option maxHeartbeats 400000 in
theorem digit_any (n : Int) (w : World) :
    Calls Tryz.prog 196 #[.int .u8 n] w fun e w' => e = .returned (.bool (digitB n)) ∧ w = w' := by
  generalize hR : digitB n = R
  have HR := Lib.hid hR
  clear hR
  go_enter Tryz.func196, Tryz.ntmps196
  go_wp2
  all_goals go_ret
  all_goals exact ⟨ret_bool (by rw [← HR.out, digitB, Bool.eq_iff_iff]; simp; omega), rfl⟩
set_option maxHeartbeats 400000 in
theorem part_any (n : Int) (w : World) :
    Calls Tryz.prog 195 #[.int .u8 n] w fun e w' => e = .returned (.bool (partB n)) ∧ w = w' := by
  generalize hR : partB n = R
  have HR := Lib.hid hR
  clear hR
  obtain ⟨L, hL⟩ : ∃ L, letterB n = L := ⟨_, rfl⟩
  obtain ⟨D, hD⟩ : ∃ D, digitB n = D := ⟨_, rfl⟩
  have c1 := letter_any n
  have c2 := digit_any n
  rw [hL] at c1
  rw [hD] at c2
  have C1 := Lib.hid c1
  have C2 := Lib.hid c2
  have HL := Lib.hid hL
  have HD := Lib.hid hD
  clear c1 c2 hL hD
  cases L <;> cases D
  all_goals
    go_enter Tryz.func195, Tryz.ntmps195
    go_wp2_with (first | (refine (C1.out _).mono ?_; rintro e w' ⟨rfl, rfl⟩) | (refine (C2.out _).mono ?_; rintro e w' ⟨rfl, rfl⟩))
    all_goals go_ret
    all_goals exact ⟨ret_bool (by rw [← HR.out, partB, HL.out, HD.out, Bool.eq_iff_iff]; simp), rfl⟩
end lex
end Go.Proofs.YtpcihajmcejliaaGreatDoor
