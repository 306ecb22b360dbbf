/- Plain arithmetic for chapter 1: a number's bits one by one, and 'and', 'or' of two numbers as sums of powers. No program here. -/
import Derived.Test.YtpcihajmcejliaaNumDefs
namespace Go.Proofs.Ytpcihajmcejliaa
open Go.RowKit
/-- the j-th bit of a number as it stands among its 64 bits -/
def bitB (a : Int) (j : Nat) : Bool := decide ((a / 2 ^ j) % 2 ≠ 0)
def sumBits (f : Nat → Bool) : Nat → Nat
  | 0 => 0
  | k + 1 => sumBits f k + 2 ^ k * (f k).toNat
namespace numm
theorem sumBits_nat (x : Nat) : ∀ k, x % 2 ^ k = sumBits (x.testBit) k := by
  intro k
  induction k with
  | zero => simp [sumBits, Nat.mod_one]
  | succ k ih =>
    rw [sumBits, ← ih, Nat.pow_succ, Nat.mod_mul, Nat.testBit_eq_decide_div_mod_eq]
    rcases Nat.mod_two_eq_zero_or_one (x / 2 ^ k) with h | h <;> rw [h] <;> simp
theorem sumBits_congr (f g : Nat → Bool) (k : Nat) (h : ∀ j, j < k → f j = g j) : sumBits f k = sumBits g k := by
  induction k with
  | zero => rfl
  | succ k ih => rw [sumBits, sumBits, ih (fun j hj => h j (by omega)), h k (by omega)]
theorem bv_sum (x : BitVec 64) : x.toNat = sumBits (fun j => x.getLsbD j) 64 := by
  have h := sumBits_nat x.toNat 64
  rw [Nat.mod_eq_of_lt x.isLt] at h
  rw [h]
  exact sumBits_congr _ _ _ fun j _ => by rw [BitVec.testBit_toNat]
theorem half_mod (a : Int) (j : Nat) (hj : j < 64) : ((a % 2 ^ 64) / 2 ^ j) % 2 = (a / 2 ^ j) % 2 := by
  have e : (2 : Int) ^ 64 = 2 ^ j * (2 * 2 ^ (63 - j)) := by
    rw [← Int.mul_assoc, Int.mul_comm (2 ^ j) 2, Int.mul_assoc, ← Int.pow_add, show j + (63 - j) = 63 from by omega]; decide
  have hp : (2 : Int) ^ j ≠ 0 := by
    have : (0 : Int) < 2 ^ j := Int.pow_pos (by decide)
    omega
  have h : a = a % 2 ^ 64 + 2 ^ j * (2 * 2 ^ (63 - j) * (a / 2 ^ 64)) := by
    have := Int.emod_add_mul_ediv a (2 ^ 64)
    rw [← Int.mul_assoc, ← e]; exact this.symm
  have h2 : a / 2 ^ j = (a % 2 ^ 64) / 2 ^ j + 2 * (2 ^ (63 - j) * (a / 2 ^ 64)) := by
    conv => lhs; rw [h]
    rw [Int.add_mul_ediv_left _ _ hp, Int.mul_assoc]
  rw [h2, Int.add_mul_emod_self_left]
theorem getLsbD_ofInt' (a : Int) (j : Nat) (hj : j < 64) : (BitVec.ofInt 64 a).getLsbD j = bitB a j := by
  have h1 : (BitVec.ofInt 64 a).toNat = (a % 2 ^ 64).toNat := by rw [BitVec.toNat_ofInt]; rfl
  rw [← BitVec.testBit_toNat, h1, Nat.testBit_eq_decide_div_mod_eq]
  unfold bitB
  rw [← half_mod a j hj]
  have hn : 0 ≤ a % 2 ^ 64 := Int.emod_nonneg _ (by decide)
  obtain ⟨m, hm⟩ := Int.eq_ofNat_of_zero_le hn
  rw [hm, Int.toNat_natCast]
  have e2 : ((m : Int) / 2 ^ j) % 2 = ((m / 2 ^ j % 2 : Nat) : Int) := by
    rw [Int.natCast_emod, Int.natCast_ediv, Int.natCast_pow]; rfl
  rw [e2]
  have := Nat.mod_two_eq_zero_or_one (m / 2 ^ j)
  rcases this with h | h <;> rw [h] <;> decide
end numm
theorem bits_and_sum (a b : Int) : bits .and .i64 a b = wrap64 ((sumBits (fun j => bitB a j && bitB b j) 64 : Nat) : Int) := by
  have e0 : bits .and .i64 a b = IntKind.i64.wrap ((BitVec.ofInt 64 a &&& BitVec.ofInt 64 b).toNat : Int) := rfl
  rw [e0, IntKind.wrap_i64, numm.bv_sum]
  have e : sumBits (fun j => (BitVec.ofInt 64 a &&& BitVec.ofInt 64 b).getLsbD j) 64 = sumBits (fun j => bitB a j && bitB b j) 64 :=
    numm.sumBits_congr _ _ _ fun j hj => by rw [BitVec.getLsbD_and, numm.getLsbD_ofInt' a j hj, numm.getLsbD_ofInt' b j hj]
  rw [e, wrap64]
theorem bits_or_sum (a b : Int) : bits .or .i64 a b = wrap64 ((sumBits (fun j => bitB a j || bitB b j) 64 : Nat) : Int) := by
  have e0 : bits .or .i64 a b = IntKind.i64.wrap ((BitVec.ofInt 64 a ||| BitVec.ofInt 64 b).toNat : Int) := rfl
  rw [e0, IntKind.wrap_i64, numm.bv_sum]
  have e : sumBits (fun j => (BitVec.ofInt 64 a ||| BitVec.ofInt 64 b).getLsbD j) 64 = sumBits (fun j => bitB a j || bitB b j) 64 :=
    numm.sumBits_congr _ _ _ fun j hj => by rw [BitVec.getLsbD_or, numm.getLsbD_ofInt' a j hj, numm.getLsbD_ofInt' b j hj]
  rw [e, wrap64]
end Go.Proofs.Ytpcihajmcejliaa
