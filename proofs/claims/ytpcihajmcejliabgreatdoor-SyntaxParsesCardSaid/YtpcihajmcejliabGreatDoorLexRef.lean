/- The walks of the reference's package 2: bytes, signs. -/
import Derived.Test.YtpcihajmcejliabGreatDoorLexB
import Derived.WalkLawsBesides
namespace Go.Proofs.YtpcihajmcejliabGreatDoor
open Go.RowKit
namespace rlex
set_option maxHeartbeats 400000 in
theorem letter_any (n : Int) (w : World) :
    Calls Tryz.prog 154 #[.int .u8 n] w fun e w' => e = .returned (.bool (letterB n)) ∧ w = w' := by
  generalize hR : letterB n = R
  have HR := Lib.hid hR
  clear hR
  go_enter Tryz.func154, Tryz.ntmps154
  go_wp2
  all_goals go_ret
  all_goals exact ⟨ret_bool (by rw [← HR.out, letterB, Bool.eq_iff_iff]; simp; omega), rfl⟩
set_option maxHeartbeats 400000 in
theorem digit_any (n : Int) (w : World) :
    Calls Tryz.prog 155 #[.int .u8 n] w fun e w' => e = .returned (.bool (digitB n)) ∧ w = w' := by
  generalize hR : digitB n = R
  have HR := Lib.hid hR
  clear hR
  go_enter Tryz.func155, Tryz.ntmps155
  go_wp2
  all_goals go_ret
  all_goals exact ⟨ret_bool (by rw [← HR.out, digitB, Bool.eq_iff_iff]; simp; omega), rfl⟩
set_option maxHeartbeats 400000 in
theorem inside_any (n : Int) (w : World) :
    Calls Tryz.prog 153 #[.int .u8 n] w fun e w' => e = .returned (.bool (partB n)) ∧ w = w' := by
  generalize hR : partB n = R
  have HR := Lib.hid hR
  clear hR
  obtain ⟨L, hL⟩ : ∃ L, letterB n = L := ⟨_, rfl⟩
  obtain ⟨D, hD⟩ : ∃ D, digitB n = D := ⟨_, rfl⟩
  have c1 := letter_any n
  have c2 := digit_any n
  rw [hL] at c1
  rw [hD] at c2
  have C1 := Lib.hid c1
  have C2 := Lib.hid c2
  have HL := Lib.hid hL
  have HD := Lib.hid hD
  clear c1 c2 hL hD
  cases L <;> cases D
  all_goals
    go_enter Tryz.func153, Tryz.ntmps153
    go_wp2_with (first | (refine (C1.out _).mono ?_; rintro e w' ⟨rfl, rfl⟩) | (refine (C2.out _).mono ?_; rintro e w' ⟨rfl, rfl⟩))
    all_goals go_ret
    all_goals exact ⟨ret_bool (by rw [← HR.out, partB, HL.out, HD.out, Bool.eq_iff_iff]; simp), rfl⟩
theorem digs_take (s : ByteArray) (k : Nat) (h : k < s.size) : digs (s.data.toList.take (k + 1)) = (digs (s.data.toList.take k) && digitB s[k].toNat) := by
  have e : s.data.toList[k]'(by simpa using h) = s[k] := rfl
  rw [List.take_succ_eq_append_getElem (by simpa using h), e]
  simp [digs]
theorem less_total (l : List UInt8) : ∀ m, l.length = m.length → Op.bytesLess l m = false → Op.bytesLess m l = false → l = m := by
  induction l with
  | nil => intro m h _ _; cases m with | nil => rfl | cons _ _ => simp at h
  | cons c r ih =>
    intro m h h1 h2
    cases m with
    | nil => simp at h
    | cons d q =>
      simp only [Op.bytesLess, Bool.or_eq_false_iff, Bool.and_eq_false_iff, decide_eq_false_iff_not, beq_eq_false_iff_ne, UInt8.lt_iff_toNat_lt] at h1 h2
      have e : c = d := UInt8.toNat_inj.1 (by omega)
      subst e
      rw [ih q (by simpa using h) (h1.2.resolve_left (fun h => h rfl)) (h2.2.resolve_left (fun h => h rfl))]
def mostL : List UInt8 := [57, 50, 50, 51, 51, 55, 50, 48, 51, 54, 56, 53, 52, 55, 55, 53, 56, 48, 55]
theorem most_dec : decFrom 0 mostL = 9223372036854775807 := by
  simp only [decFrom, mostL, List.foldl_cons, List.foldl_nil, dstep_eq]
  rfl
theorem signN_le (l : List UInt8) : signN l ≤ l.length := by
  unfold signN
  split
  · rename_i h
    have := (List.isPrefixOf_iff_prefix.1 h).length_le
    simpa using this
  · split
    · simp
    · split <;> simp
end rlex
end Go.Proofs.YtpcihajmcejliabGreatDoor
