/- Rows of digits, in plain Lean: how the library's reading of a number and the comparison with the greatest one agree. -/
import Derived.Test.YtpcihajmcejliaaGreatDoorLexMath
import Derived.Lib.ParseIntB
import Derived.Lib.SlTrimSet
namespace Go.Proofs.YtpcihajmcejliaaGreatDoor
open Go.RowKit
def dstep (acc : Nat) (c : UInt8) : Nat := acc * 10 + (c.toNat - 48)
theorem dstep_eq (acc : Nat) (c : UInt8) : dstep acc c = acc * 10 + (c.toNat - 48) := by unfold dstep; exact Eq.refl _
attribute [irreducible] dstep
def decFrom (acc : Nat) (l : List UInt8) : Nat := l.foldl dstep acc
def digs (l : List UInt8) : Bool := l.all fun c => digitB c.toNat
/-- what is wrong with a row that begins with a digit -/
def numeralF (l : List UInt8) : Int := if digs l = false then 2 else if 1 < l.length ∧ l.head? = some 48 then 2 else if 9223372036854775808 ≤ decFrom 0 l then 6 else 0
theorem digitB_iff (c : UInt8) : digitB c.toNat = true ↔ 48 ≤ c.toNat ∧ c.toNat ≤ 57 := by
  simp only [digitB, decide_eq_true_eq]; omega
theorem digs_cons (c : UInt8) (r : List UInt8) : digs (c :: r) = true ↔ (48 ≤ c.toNat ∧ c.toNat ≤ 57) ∧ digs r = true := by
  simp only [digs, List.all_cons, Bool.and_eq_true, digitB_iff]
theorem mulstep (acc d p q : Nat) : (acc * 10 + d) * p + q = acc * (p * 10) + (d * p + q) := by
  rw [Nat.add_mul, Nat.mul_assoc, Nat.mul_comm 10 p]
  omega
theorem decFrom_step (acc : Nat) (c : UInt8) (r : List UInt8) : decFrom acc (c :: r) = decFrom (acc * 10 + (c.toNat - 48)) r := by
  unfold decFrom
  rw [List.foldl_cons, dstep_eq]
theorem decFrom_eq (l : List UInt8) : ∀ acc, decFrom acc l = acc * 10 ^ l.length + decFrom 0 l := by
  induction l with
  | nil => intro acc; simp [decFrom]
  | cons c r ih =>
    intro acc
    rw [decFrom_step, decFrom_step 0, ih, ih (0 * 10 + (c.toNat - 48)), List.length_cons, Nat.pow_succ]
    generalize 10 ^ r.length = p
    generalize decFrom 0 r = q
    generalize c.toNat - 48 = d
    rw [mulstep, Nat.zero_mul, Nat.zero_add]
theorem decFrom_ge (l : List UInt8) (acc : Nat) : acc ≤ decFrom acc l := by
  rw [decFrom_eq]
  have : 0 < 10 ^ l.length := Nat.pow_pos (by omega)
  have := Nat.le_mul_of_pos_right acc this
  omega
theorem decFrom_lt (l : List UInt8) (h : digs l = true) : decFrom 0 l < 10 ^ l.length := by
  induction l with
  | nil => simp [decFrom]
  | cons c r ih =>
    obtain ⟨hc, hr⟩ := (digs_cons c r).1 h
    have := ih hr
    rw [decFrom_step, List.length_cons, decFrom_eq, Nat.pow_succ]
    have h1 : (0 * 10 + (c.toNat - 48)) * 10 ^ r.length ≤ 9 * 10 ^ r.length := Nat.mul_le_mul_right _ (by omega)
    omega
theorem decFrom_head (c : UInt8) (r : List UInt8) (h : 49 ≤ c.toNat) : 10 ^ r.length ≤ decFrom 0 (c :: r) := by
  rw [decFrom_step, decFrom_eq]
  have h1 : 1 * 10 ^ r.length ≤ (0 * 10 + (c.toNat - 48)) * 10 ^ r.length := Nat.mul_le_mul_right _ (by omega)
  omega
theorem less_iff (l : List UInt8) : ∀ m, l.length = m.length → digs l = true → digs m = true → (Op.bytesLess l m = true ↔ decFrom 0 l < decFrom 0 m) := by
  induction l with
  | nil => intro m h _ _; cases m with | nil => simp [Op.bytesLess, decFrom] | cons _ _ => simp at h
  | cons c r ih =>
    intro m h hl hm
    cases m with
    | nil => simp at h
    | cons d q =>
      obtain ⟨hc, hr⟩ := (digs_cons c r).1 hl
      obtain ⟨hd, hq⟩ := (digs_cons d q).1 hm
      have hlen : r.length = q.length := by simpa using h
      have b1 := decFrom_lt r hr
      have b2 := decFrom_lt q hq
      simp only [Op.bytesLess, decFrom_step, Bool.or_eq_true, Bool.and_eq_true, decide_eq_true_eq, beq_iff_eq, ih q hlen hr hq]
      rw [decFrom_eq r (0 * 10 + (c.toNat - 48)), decFrom_eq q (0 * 10 + (d.toNat - 48)), UInt8.lt_iff_toNat_lt, ← UInt8.toNat_inj]
      rw [← hlen] at b2 ⊢
      generalize 10 ^ r.length = p at *
      rcases Nat.lt_trichotomy c.toNat d.toNat with hlt | he | hgt
      · have : (0 * 10 + (c.toNat - 48) + 1) * p ≤ (0 * 10 + (d.toNat - 48)) * p := Nat.mul_le_mul_right _ (by omega)
        rw [Nat.add_mul] at this
        constructor
        · intro _; omega
        · intro _; exact .inl hlt
      · rw [he]
        constructor
        · rintro (h | ⟨_, h⟩) <;> omega
        · intro h; exact .inr ⟨rfl, by omega⟩
      · have : (0 * 10 + (d.toNat - 48) + 1) * p ≤ (0 * 10 + (c.toNat - 48)) * p := Nat.mul_le_mul_right _ (by omega)
        rw [Nat.add_mul] at this
        constructor
        · rintro (h | ⟨h, _⟩) <;> omega
        · intro _; omega
theorem uint_digits (l : List UInt8) : ∀ acc, digs l = true → acc ≤ 18446744073709551615 → Lib.parseUintM 18446744073709551615 acc l = if decFrom acc l ≤ 18446744073709551615 then .ok (decFrom acc l) else .range := by
  induction l with
  | nil => intro acc _ h; simp [Lib.parseUintM, decFrom, h]
  | cons c r ih =>
    intro acc h hacc
    obtain ⟨hc, hr⟩ := (digs_cons c r).1 h
    rw [decFrom_step]
    simp only [Lib.parseUintM, if_pos hc]
    have hge := decFrom_ge r (acc * 10 + (c.toNat - 48))
    by_cases h1 : 1844674407370955162 ≤ acc
    · rw [if_pos h1, if_neg (by omega)]
    · rw [if_neg h1]
      by_cases h2 : 18446744073709551615 < acc * 10 + (c.toNat - 48)
      · rw [if_pos h2, if_neg (by omega)]
      · rw [if_neg h2]
        exact ih _ hr (by omega)
theorem int_digits (l : List UInt8) (h : digs l = true) (hn : l ≠ []) : Lib.parseIntB 64 l = if decFrom 0 l < 9223372036854775808 then .ok (decFrom 0 l : Int) else .range := by
  cases l with
  | nil => exact absurd rfl hn
  | cons c r =>
    obtain ⟨hc, _⟩ := (digs_cons c r).1 h
    have e := uint_digits (c :: r) 0 h (by omega)
    have n1 : ¬ (c.toNat = 43 ∨ c.toNat = 45) := by omega
    have n2 : ¬ c.toNat = 45 := by omega
    have e2 : Lib.parseUintB 64 (c :: r) = Lib.parseUintM 18446744073709551615 0 (c :: r) := by
      rw [Lib.parseUintB, if_neg hn]
    simp only [Lib.parseIntB, if_neg n1, e2, e]
    by_cases h1 : decFrom 0 (c :: r) ≤ 18446744073709551615
    · rw [if_pos h1]
      have e3 : (2 : Nat) ^ (64 - 1) = 9223372036854775808 := by decide
      simp only [n2, not_false_eq_true, true_and, e3, false_and, if_false]
      by_cases h2 : 9223372036854775808 ≤ decFrom 0 (c :: r)
      · rw [if_pos h2, if_neg (by omega)]
      · rw [if_neg h2, if_pos (by omega)]
    · rw [if_neg h1, if_neg (by omega)]
theorem dropWhile_nil_iff {α : Type} (p : α → Bool) (l : List α) : l.dropWhile p = [] ↔ ∀ x ∈ l, p x = true := by
  induction l with
  | nil => simp
  | cons a r ih =>
    by_cases h : p a = true
    · simp [h, ih]
    · simp [h]
theorem ten_contains (c : UInt8) : ([48, 49, 50, 51, 52, 53, 54, 55, 56, 57] : List UInt8).contains c = digitB c.toNat := by
  rw [Bool.eq_iff_iff, digitB_iff]
  simp only [List.contains_cons, List.contains_nil, Bool.or_false, Bool.or_eq_true, beq_iff_eq, ← UInt8.toNat_inj]
  have e : ∀ n, n < 256 → (UInt8.ofNat n).toNat = n := fun n h => by simp; omega
  have := c.toNat_lt
  show _ = 48 ∨ _ = 49 ∨ _ = 50 ∨ _ = 51 ∨ _ = 52 ∨ _ = 53 ∨ _ = 54 ∨ _ = 55 ∨ _ = 56 ∨ _ = 57 ↔ _
  omega
theorem trim_digits (l : List UInt8) : Lib.trimS l [48, 49, 50, 51, 52, 53, 54, 55, 56, 57] = [] ↔ digs l = true := by
  have e : (fun x => ([48, 49, 50, 51, 52, 53, 54, 55, 56, 57] : List UInt8).contains x) = fun c => digitB c.toNat := funext ten_contains
  simp only [Lib.trimS, Lib.trimLeftS, Lib.trimRightS, e]
  constructor
  · intro h
    rw [dropWhile_nil_iff] at h
    simp only [digs, List.all_eq_true]
    cases hd : List.dropWhile (fun c : UInt8 => digitB c.toNat) l.reverse with
    | nil =>
      rw [dropWhile_nil_iff] at hd
      intro x hx
      exact hd x (by simpa using hx)
    | cons x xs =>
      have h1 := h x (by rw [hd]; simp)
      have h2 := List.head_dropWhile_not (fun c : UInt8 => digitB c.toNat) (l := l.reverse) (by rw [hd]; simp)
      simp only [hd, List.head_cons] at h2
      rw [h1] at h2
      cases h2
  · intro h
    simp only [digs, List.all_eq_true] at h
    have : List.dropWhile (fun c : UInt8 => digitB c.toNat) l.reverse = [] := by
      rw [dropWhile_nil_iff]
      intro x hx
      exact h x (by simpa using hx)
    rw [this]
    rfl
end Go.Proofs.YtpcihajmcejliaaGreatDoor
