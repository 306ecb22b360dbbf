/- The walks of the reference of chapter 1: dryshodref1's Op and Join return what num's do, for every argument. -/
import Derived.Test.YtpcihajmcejliaaProg
import Derived.Test.YtpcihajmcejliaaNumMath
import Derived.WalkKit
import Derived.WalkLawsBesides
import Derived.Lib.Hide
namespace Go.Proofs.Ytpcihajmcejliaa
open Go.RowKit
theorem rjoin_any (a b : Int) (w : World) :
   Calls Try.prog 11 #[.int .i64 a, .int .i64 b] w fun e w' => e = .returned (.int .i64 (joinF a b)) ∧ w = w' := by
  by_cases ha : a = 0
  · subst ha
    by_cases hb : b = 0
    · subst hb
      go_enter Try.func11, Try.ntmps11
      go_wp2
      go_ret
      exact ⟨by simp [joinF], rfl⟩
    · go_enter Try.func11, Try.ntmps11
      go_wp2
      go_ret
      exact ⟨by simp [joinF, hb], rfl⟩
  · go_enter Try.func11, Try.ntmps11
    go_wp2
    go_ret
    exact ⟨by simp [joinF, ha], rfl⟩
namespace ref1
theorem ret_int {k : IntKind} {a b : Int} (h : a = b) : Ending.returned (.int k a) = .returned (.int k b) := by rw [h]
theorem ret_bool {a b : Bool} (h : a = b) : Ending.returned (.bool a) = .returned (.bool b) := by rw [h]
theorem shr (n : Int) (k : Nat) : n / 2 ^ (k + 1) = n / 2 ^ k / 2 := by
  rw [Int.ediv_ediv_of_nonneg (Int.pow_nonneg (by decide)), Int.pow_succ]
theorem shr_in (n : Int) (k : Nat) (h : -9223372036854775808 ≤ n ∧ n ≤ 9223372036854775807) : -9223372036854775808 ≤ n / 2 ^ k ∧ n / 2 ^ k ≤ 9223372036854775807 := by
  induction k with
  | zero => simpa using h
  | succ k ih => rw [shr]; omega
theorem tmod2 (n : Int) : n.tmod 2 = 0 ∧ n % 2 = 0 ∨ n.tmod 2 = 1 ∧ n % 2 = 1 ∨ n.tmod 2 = -1 ∧ n % 2 = 1 := by
  rcases Int.tmod_two_eq n with h | h | h <;> have := Int.tmod_add_mul_tdiv n 2 <;> omega
theorem bit_ne (n : Int) : (n.tmod 2 != 0) = decide (n % 2 ≠ 0) := by
  rcases tmod2 n with ⟨h, h'⟩ | ⟨h, h'⟩ | ⟨h, h'⟩ <;> rw [h, h'] <;> decide
theorem half_even (n : Int) (h : -9223372036854775808 ≤ n ∧ n ≤ 9223372036854775807) (he : n % 2 = 0) : wrap64 ((wrap64 n).tdiv 2) = n / 2 := by
  have e1 : wrap64 n = n := by unfold wrap64; omega
  have e2 : n.tdiv 2 = n / 2 := by
    have h0 : n = 2 * (n / 2) := by omega
    conv => lhs; rw [h0, Int.mul_tdiv_cancel_left _ (by decide : (2 : Int) ≠ 0)]
  rw [e1, e2]; unfold wrap64; omega
end ref1
namespace ref1
theorem bitB_ne (n : Int) (j : Nat) : bitB n j = ((n / 2 ^ j).tmod 2 != 0) := (bit_ne _).symm
theorem halfA (m : Int) (h : m.tmod 2 = 0) : (m - m.tmod 2).tdiv 2 = m / 2 := by
  rw [h]; have h0 : m - 0 = 2 * (m / 2) := by have := tmod2 m; omega
  rw [h0, Int.mul_tdiv_cancel_left _ (by decide : (2 : Int) ≠ 0)]
/-- what a round makes of a number: its half, cut downwards -/
theorem round (m r : Int) (hr : r = m % 2) (hm : -9223372036854775808 ≤ m ∧ m ≤ 9223372036854775807) : wrap64 ((wrap64 (m - r)).tdiv 2) = m / 2 := by
  have e1 : wrap64 (m - r) = 2 * (m / 2) := by unfold wrap64; omega
  rw [e1, Int.mul_tdiv_cancel_left _ (by decide : (2 : Int) ≠ 0)]
  unfold wrap64; omega
end ref1
open ref1 in
set_option maxHeartbeats 400000 in
theorem bit_any (n : Int) (k : Nat) (w : World) (h : -9223372036854775808 ≤ n ∧ n ≤ 9223372036854775807) (hk : k ≤ 64) :
    Calls Try.prog 29 #[.int .i64 n, .int .i64 k] w fun e w' => e = .returned (.bool (bitB n k)) ∧ w = w' := by
  go_enter Try.func29, Try.ntmps29
  go_wp2
  go_loop [0, 5, 6] (fun m i _ => ∃ j : Nat, j ≤ k ∧ i = .int .i64 j ∧ m = .int .i64 (n / 2 ^ j)) (fun _ i _ => k - (intOf i).toNat)
  case atStart => exact ⟨0, Nat.zero_le _, rfl, by simp⟩
  case round =>
    obtain ⟨j, hj, rfl, rfl⟩ := hrel
    have hb := shr_in n j h
    have hs := Lib.hid (shr n j)
    have hB := Lib.hid (bitB_ne n j)
    generalize n / 2 ^ j = m at *
    by_cases hlt : j < k
    · have h2 := tmod2 m
      have hr := Lib.hid (round m (m % 2) rfl hb)
      rcases h2 with ⟨h2, h3⟩ | ⟨h2, h3⟩ | ⟨h2, h3⟩
      · have HA := Lib.hid (halfA m h2)
        clear h3
        go_wp2
        go_round
        case rel => exact ⟨j + 1, by omega, by go_num, by rw [hs.out, ← HA.out, h2, Int.sub_zero]⟩
        case measure => simp [intOf]; omega
      · have H3 := Lib.hid h3
        clear h3
        go_wp2
        go_round
        case rel => exact ⟨j + 1, by omega, by go_num, by rw [hs.out, ← hr.out, H3.out]⟩
        case measure => simp [intOf]; omega
      · have H3 := Lib.hid h3
        clear h3
        go_wp2
        go_round
        case rel => exact ⟨j + 1, by omega, by go_num, by rw [hs.out, ← hr.out, H3.out]⟩
        case measure => simp [intOf]; omega
    · obtain rfl : j = k := by omega
      go_wp2
      go_ret
      exact ⟨ret_bool hB.out.symm, rfl⟩

namespace ref1
theorem wrap_add (x y : Int) : wrap64 (wrap64 x + wrap64 y) = wrap64 (x + y) := by unfold wrap64; omega
theorem wrap_wrap (x : Int) : wrap64 (wrap64 x) = wrap64 x := by unfold wrap64; omega
theorem pow_step (j : Nat) : wrap64 ((2 ^ (j + 1) : Nat) : Int) = wrap64 (wrap64 ((2 ^ j : Nat) : Int) + wrap64 ((2 ^ j : Nat) : Int)) := by
  rw [wrap_add, Nat.pow_succ]; congr 1; omega
theorem pow_start : wrap64 ((2 ^ 0 : Nat) : Int) = 1 := by unfold wrap64; rfl
theorem sum_start (f : Nat → Bool) : wrap64 ((sumBits f 0 : Nat) : Int) = 0 := by simp [sumBits, wrap64]
theorem sum_step (f : Nat → Bool) (j : Nat) : wrap64 ((sumBits f (j + 1) : Nat) : Int) = if f j then wrap64 (wrap64 ((sumBits f j : Nat) : Int) + wrap64 ((2 ^ j : Nat) : Int)) else wrap64 ((sumBits f j : Nat) : Int) := by
  rw [sumBits]
  cases h : f j
  · simp
  · rw [if_pos rfl, wrap_add]; simp
end ref1

open ref1 in
set_option maxHeartbeats 800000 in
theorem bits_true (a b : Int) (w : World) (ha : -9223372036854775808 ≤ a ∧ a ≤ 9223372036854775807) (hb : -9223372036854775808 ≤ b ∧ b ≤ 9223372036854775807) :
    Calls Try.prog 21 #[.int .i64 a, .int .i64 b, .bool true] w fun e w' => e = .returned (.int .i64 (bits .and .i64 a b)) ∧ w = w' := by
  go_enter Try.func21, Try.ntmps21
  go_wp2
  go_loop [7, 8, 9, 10, 11] (fun n p i _ _ => ∃ j : Nat, j ≤ 64 ∧ i = .int .i64 j ∧ n = .int .i64 (wrap64 ((sumBits (fun j => bitB a j && bitB b j) j : Nat) : Int)) ∧ p = .int .i64 (wrap64 ((2 ^ j : Nat) : Int))) (fun _ _ i _ _ => 64 - (intOf i).toNat)
  case atStart => exact ⟨0, by omega, rfl, by rw [sum_start], by rw [pow_start]⟩
  case round =>
    obtain ⟨j, hj, rfl, rfl, rfl⟩ := hrel
    have hS := Lib.hid (sum_step (fun j => bitB a j && bitB b j) j)
    have hP := Lib.hid (pow_step j)
    have hF := Lib.hid (bits_and_sum a b)
    by_cases hlt : j < 64
    · have hx := Lib.hid (rfl : (fun j => bitB a j && bitB b j) j = (bitB a j && bitB b j))
      generalize wrap64 ((sumBits (fun j => bitB a j && bitB b j) j : Nat) : Int) = S at *
      generalize wrap64 ((2 ^ j : Nat) : Int) = p at *
      go_wp2_with fail
      refine (bit_any _ _ _ ha (by omega)).mono ?_
      rintro e w' ⟨rfl, rfl⟩
      go_wp2_with fail
      refine (bit_any _ _ _ hb (by omega)).mono ?_
      rintro e w' ⟨rfl, rfl⟩
      cases h1 : bitB a j <;> cases h2 : bitB b j
      all_goals
        have H1 := Lib.hid h1
        have H2 := Lib.hid h2
        clear h1 h2
        go_wp2_with fail
        go_round
        case rel => exact ⟨j + 1, by omega, by go_num, by rw [hS.out]; simp [H1.out, H2.out], by rw [hP.out]⟩
        case measure => simp [intOf]; omega
    · obtain rfl : j = 64 := by omega
      clear hS hP
      go_wp2_with fail
      go_ret
      exact ⟨ret_int hF.out.symm, rfl⟩

open ref1 in
set_option maxHeartbeats 800000 in
theorem bits_false (a b : Int) (w : World) (ha : -9223372036854775808 ≤ a ∧ a ≤ 9223372036854775807) (hb : -9223372036854775808 ≤ b ∧ b ≤ 9223372036854775807) :
    Calls Try.prog 21 #[.int .i64 a, .int .i64 b, .bool false] w fun e w' => e = .returned (.int .i64 (bits .or .i64 a b)) ∧ w = w' := by
  go_enter Try.func21, Try.ntmps21
  go_wp2
  go_loop [7, 8, 9, 10, 11] (fun n p i _ _ => ∃ j : Nat, j ≤ 64 ∧ i = .int .i64 j ∧ n = .int .i64 (wrap64 ((sumBits (fun j => bitB a j || bitB b j) j : Nat) : Int)) ∧ p = .int .i64 (wrap64 ((2 ^ j : Nat) : Int))) (fun _ _ i _ _ => 64 - (intOf i).toNat)
  case atStart => exact ⟨0, by omega, rfl, by rw [sum_start], by rw [pow_start]⟩
  case round =>
    obtain ⟨j, hj, rfl, rfl, rfl⟩ := hrel
    have hS := Lib.hid (sum_step (fun j => bitB a j || bitB b j) j)
    have hP := Lib.hid (pow_step j)
    have hF := Lib.hid (bits_or_sum a b)
    by_cases hlt : j < 64
    · have hx := Lib.hid (rfl : (fun j => bitB a j || bitB b j) j = (bitB a j || bitB b j))
      generalize wrap64 ((sumBits (fun j => bitB a j || bitB b j) j : Nat) : Int) = S at *
      generalize wrap64 ((2 ^ j : Nat) : Int) = p at *
      go_wp2_with fail
      refine (bit_any _ _ _ ha (by omega)).mono ?_
      rintro e w' ⟨rfl, rfl⟩
      go_wp2_with fail
      refine (bit_any _ _ _ hb (by omega)).mono ?_
      rintro e w' ⟨rfl, rfl⟩
      cases h1 : bitB a j <;> cases h2 : bitB b j
      all_goals
        have H1 := Lib.hid h1
        have H2 := Lib.hid h2
        clear h1 h2
        go_wp2_with fail
        go_round
        case rel => exact ⟨j + 1, by omega, by go_num, by rw [hS.out]; simp [H1.out, H2.out], by rw [hP.out]⟩
        case measure => simp [intOf]; omega
    · obtain rfl : j = 64 := by omega
      clear hS hP
      go_wp2_with fail
      go_ret
      exact ⟨ret_int hF.out.symm, rfl⟩

namespace ref1
theorem tup {a b : Int} {x y : Bool} (h : a = b) (h' : x = y) : Ending.returned (.tuple #[.int .i64 a, .bool x]) = .returned (.tuple #[.int .i64 b, .bool y]) := by rw [h, h']
theorem wrap_off (x k : Int) : wrap64 (x + 18446744073709551616 * k) = wrap64 x := by unfold wrap64; omega
theorem wrap_is (x : Int) : ∃ k, wrap64 x = x + 18446744073709551616 * k := ⟨-((x + 9223372036854775808) / 18446744073709551616), by unfold wrap64; omega⟩
theorem rem_is (a b q : Int) : wrap64 (a - wrap64 (wrap64 q * b)) = wrap64 (a - q * b) := by
  obtain ⟨k1, h1⟩ := wrap_is q
  rw [h1]
  obtain ⟨k2, h2⟩ := wrap_is ((q + 18446744073709551616 * k1) * b)
  rw [h2]
  have e : a - ((q + 18446744073709551616 * k1) * b + 18446744073709551616 * k2) = (a - q * b) + 18446744073709551616 * (-(k1 * b) - k2) := by
    rw [Int.add_mul, Int.mul_assoc, Int.mul_sub, Int.mul_neg]; omega
  rw [e, wrap_off]
theorem rem_tmod (a b : Int) (hb : -9223372036854775808 ≤ b ∧ b ≤ 9223372036854775807) (h0 : b ≠ 0) : wrap64 (a - wrap64 (wrap64 (a.tdiv b) * b)) = a.tmod b := by
  rw [rem_is]
  have e : a - a.tdiv b * b = a.tmod b := by rw [Int.tmod_def, Int.mul_comm]
  rw [e]
  have h1 : (a.tmod b).natAbs < b.natAbs := by rw [Int.natAbs_tmod]; exact Nat.mod_lt _ (by omega)
  unfold wrap64; omega
theorem rem_neg (a : Int) : wrap64 (a - wrap64 (wrap64 (0 - a) * (-1))) = 0 := by
  rw [rem_is]; have e : a - (0 - a) * (-1) = 0 := by omega
  rw [e]; unfold wrap64; rfl
theorem truth_any (x : Bool) (w : World) : Calls Try.prog 22 #[.bool x] w fun e w' => e = .returned (.int .i64 (if x then 1 else 0)) ∧ w = w' := by
  cases x
  · go_enter Try.func22, Try.ntmps22
    go_wp2
    go_ret
    exact ⟨rfl, rfl⟩
  · go_enter Try.func22, Try.ntmps22
    go_wp2
    go_ret
    exact ⟨rfl, rfl⟩
theorem op_1 (a b : Int) (w : World) :
   Calls Try.prog 10 #[.int .i64 1, .int .i64 a, .int .i64 b] w fun e w' => e = .returned (.tuple #[.int .i64 (opF 1 a b).1, .bool (opF 1 a b).2]) ∧ w = w' := by
  go_enter Try.func10, Try.ntmps10
  go_wp2
  go_ret2
  exact ⟨tup rfl rfl, rfl⟩
theorem op_2 (a b : Int) (w : World) :
   Calls Try.prog 10 #[.int .i64 2, .int .i64 a, .int .i64 b] w fun e w' => e = .returned (.tuple #[.int .i64 (opF 2 a b).1, .bool (opF 2 a b).2]) ∧ w = w' := by
  go_enter Try.func10, Try.ntmps10
  go_wp2
  go_ret2
  exact ⟨tup rfl rfl, rfl⟩
theorem op_3 (a b : Int) (w : World) :
   Calls Try.prog 10 #[.int .i64 3, .int .i64 a, .int .i64 b] w fun e w' => e = .returned (.tuple #[.int .i64 (opF 3 a b).1, .bool (opF 3 a b).2]) ∧ w = w' := by
  go_enter Try.func10, Try.ntmps10
  go_wp2
  go_ret2
  exact ⟨tup rfl rfl, rfl⟩
theorem op_4 (a b : Int) (w : World) :
   Calls Try.prog 10 #[.int .i64 4, .int .i64 a, .int .i64 b] w fun e w' => e = .returned (.tuple #[.int .i64 (opF 4 a b).1, .bool (opF 4 a b).2]) ∧ w = w' := by
  by_cases h0 : b = 0
  · subst h0
    go_enter Try.func10, Try.ntmps10
    go_wp2
    go_ret2
    exact ⟨tup rfl rfl, rfl⟩
  · by_cases h1 : b = -1
    · subst h1
      go_enter Try.func10, Try.ntmps10
      go_wp2
      go_ret2
      exact ⟨tup (by simp [opF]) rfl, rfl⟩
    · go_enter Try.func10, Try.ntmps10
      go_wp2
      go_ret2
      exact ⟨tup (by simp [opF, h0, h1]) (by simp [opF, h0]), rfl⟩
theorem op_5 (a b : Int) (w : World) (_ha : -9223372036854775808 ≤ a ∧ a ≤ 9223372036854775807) (hb : -9223372036854775808 ≤ b ∧ b ≤ 9223372036854775807) :
   Calls Try.prog 10 #[.int .i64 5, .int .i64 a, .int .i64 b] w fun e w' => e = .returned (.tuple #[.int .i64 (opF 5 a b).1, .bool (opF 5 a b).2]) ∧ w = w' := by
  by_cases h0 : b = 0
  · subst h0
    go_enter Try.func10, Try.ntmps10
    go_wp2
    go_ret2
    exact ⟨tup rfl rfl, rfl⟩
  · by_cases h1 : b = -1
    · subst h1
      have H := Lib.hid (rem_neg a)
      go_enter Try.func10, Try.ntmps10
      go_wp2
      go_ret2
      exact ⟨tup (by simp only [opF]; simpa using H.out) rfl, rfl⟩
    · have H := Lib.hid (rem_tmod a b hb h0)
      go_enter Try.func10, Try.ntmps10
      go_wp2
      go_ret2
      exact ⟨tup (by rw [H.out]; simp [opF, h0, h1]) (by simp [opF, h0]), rfl⟩
theorem op_6 (a b : Int) (w : World) (ha : -9223372036854775808 ≤ a ∧ a ≤ 9223372036854775807) (hb : -9223372036854775808 ≤ b ∧ b ≤ 9223372036854775807) :
   Calls Try.prog 10 #[.int .i64 6, .int .i64 a, .int .i64 b] w fun e w' => e = .returned (.tuple #[.int .i64 (opF 6 a b).1, .bool (opF 6 a b).2]) ∧ w = w' := by
  go_enter Try.func10, Try.ntmps10
  go_wp2_with fail
  refine (bits_true a b _ ha hb).mono ?_
  rintro e w' ⟨rfl, rfl⟩
  go_wp2_with fail
  go_ret2
  exact ⟨tup rfl rfl, rfl⟩
theorem op_7 (a b : Int) (w : World) (ha : -9223372036854775808 ≤ a ∧ a ≤ 9223372036854775807) (hb : -9223372036854775808 ≤ b ∧ b ≤ 9223372036854775807) :
   Calls Try.prog 10 #[.int .i64 7, .int .i64 a, .int .i64 b] w fun e w' => e = .returned (.tuple #[.int .i64 (opF 7 a b).1, .bool (opF 7 a b).2]) ∧ w = w' := by
  go_enter Try.func10, Try.ntmps10
  go_wp2_with fail
  refine (bits_false a b _ ha hb).mono ?_
  rintro e w' ⟨rfl, rfl⟩
  go_wp2_with fail
  go_ret2
  exact ⟨tup rfl rfl, rfl⟩
theorem op_8 (a b : Int) (w : World) :
   Calls Try.prog 10 #[.int .i64 8, .int .i64 a, .int .i64 b] w fun e w' => e = .returned (.tuple #[.int .i64 (opF 8 a b).1, .bool (opF 8 a b).2]) ∧ w = w' := by
  by_cases h : a < b
  · go_enter Try.func10, Try.ntmps10
    go_wp2_with fail
    refine (truth_any _ _).mono ?_
    rintro e w' ⟨rfl, rfl⟩
    go_wp2_with fail
    go_ret2
    exact ⟨tup (by simp [opF, h]) rfl, rfl⟩
  · go_enter Try.func10, Try.ntmps10
    go_wp2_with fail
    refine (truth_any _ _).mono ?_
    rintro e w' ⟨rfl, rfl⟩
    go_wp2_with fail
    go_ret2
    exact ⟨tup (by simp [opF, h]) rfl, rfl⟩
theorem op_9 (a b : Int) (w : World) :
   Calls Try.prog 10 #[.int .i64 9, .int .i64 a, .int .i64 b] w fun e w' => e = .returned (.tuple #[.int .i64 (opF 9 a b).1, .bool (opF 9 a b).2]) ∧ w = w' := by
  by_cases h : a = b
  · go_enter Try.func10, Try.ntmps10
    go_wp2_with fail
    refine (truth_any _ _).mono ?_
    rintro e w' ⟨rfl, rfl⟩
    go_wp2_with fail
    go_ret2
    exact ⟨tup (by simp [opF, h]) rfl, rfl⟩
  · go_enter Try.func10, Try.ntmps10
    go_wp2_with fail
    refine (truth_any _ _).mono ?_
    rintro e w' ⟨rfl, rfl⟩
    go_wp2_with fail
    go_ret2
    exact ⟨tup (by simp [opF, h]) rfl, rfl⟩
theorem op_else (n a b : Int) (w : World) (h : n < 1 ∨ 9 < n) :
   Calls Try.prog 10 #[.int .i64 n, .int .i64 a, .int .i64 b] w fun e w' => e = .returned (.tuple #[.int .i64 (opF n a b).1, .bool (opF n a b).2]) ∧ w = w' := by
  have h' : opF n a b = (0, false) := by
    unfold opF
    repeat rw [if_neg (by omega)]
  rw [h']
  clear h'
  go_enter Try.func10, Try.ntmps10
  go_wp2
  go_ret2
  exact ⟨tup rfl rfl, rfl⟩
end ref1
open ref1 in
/-- The reference's Op, at every operation: what num.Op gives. -/
theorem rop_any (n a b : Int) (w : World) (ha : -9223372036854775808 ≤ a ∧ a ≤ 9223372036854775807) (hb : -9223372036854775808 ≤ b ∧ b ≤ 9223372036854775807) :
   Calls Try.prog 10 #[.int .i64 n, .int .i64 a, .int .i64 b] w fun e w' => e = .returned (.tuple #[.int .i64 (opF n a b).1, .bool (opF n a b).2]) ∧ w = w' := by
  by_cases h : n < 1 ∨ 9 < n
  · exact op_else n a b w h
  · have : n = 1 ∨ n = 2 ∨ n = 3 ∨ n = 4 ∨ n = 5 ∨ n = 6 ∨ n = 7 ∨ n = 8 ∨ n = 9 := by omega
    rcases this with rfl | rfl | rfl | rfl | rfl | rfl | rfl | rfl | rfl
    · exact op_1 a b w
    · exact op_2 a b w
    · exact op_3 a b w
    · exact op_4 a b w
    · exact op_5 a b w ha hb
    · exact op_6 a b w ha hb
    · exact op_7 a b w ha hb
    · exact op_8 a b w
    · exact op_9 a b w
end Go.Proofs.Ytpcihajmcejliaa
