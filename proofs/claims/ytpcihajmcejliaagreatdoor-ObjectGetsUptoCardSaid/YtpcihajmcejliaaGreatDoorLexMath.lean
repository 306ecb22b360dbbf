/- What package lex makes of a text, in plain Lean. -/
import Derived.Test.YtpcihajmcejliaaGreatDoorLexRun
namespace Go.Proofs.YtpcihajmcejliaaGreatDoor
open Go.RowKit
/-- how many bytes are passed over; true: in a remark -/
def skipB : Bool → List UInt8 → Nat
  | _, [] => 0
  | false, c :: r => if c = 32 ∨ c = 10 then 1 + skipB false r else if c = 35 then 1 + skipB true r else 0
  | true, c :: r => if c = 10 then 1 + skipB false r else 1 + skipB true r
theorem skip_le (l : List UInt8) : ∀ b, skipB b l ≤ l.length := by
  induction l with
  | nil => intro b; cases b <;> simp [skipB]
  | cons c r ih =>
    intro b
    have h1 := ih true
    have h2 := ih false
    cases b <;> simp only [skipB, List.length_cons] <;> repeat' split
    all_goals omega
theorem u8_int (c d : UInt8) : ((c.toNat : Int) = d.toNat) ↔ c = d := by
  constructor
  · intro h; exact UInt8.toNat_inj.1 (by omega)
  · intro h; rw [h]
theorem blankB_iff (c : UInt8) : blankB c.toNat = true ↔ c = 32 ∨ c = 10 := by
  have h1 := u8_int c 32
  have h2 := u8_int c 10
  simp only [blankB, decide_eq_true_eq]
  exact or_congr h1 h2
theorem otherB_iff (c : UInt8) : otherB c.toNat = true ↔ ¬ c = 10 := by
  have h2 := u8_int c 10
  simp only [otherB, decide_eq_true_eq]
  exact not_congr h2
theorem skip_blanks (l : List UInt8) : skipB false l = runN blankB l + skipB false (l.drop (runN blankB l)) := by
  induction l with
  | nil => simp [skipB, runN]
  | cons c r ih =>
    by_cases h : blankB c.toNat = true
    · have e : runN blankB (c :: r) = runN blankB r + 1 := by simp [runN, h]
      have h' := (blankB_iff c).1 h
      rw [e, List.drop_succ_cons]
      simp only [skipB, if_pos h']
      omega
    · have e : runN blankB (c :: r) = 0 := by simp [runN, h]
      rw [e]
      simp
theorem skip_remark (l : List UInt8) : skipB true l = runN otherB l + skipB false (l.drop (runN otherB l)) := by
  induction l with
  | nil => simp [skipB, runN]
  | cons c r ih =>
    by_cases h : otherB c.toNat = true
    · have e : runN otherB (c :: r) = runN otherB r + 1 := by simp [runN, h]
      have h' := (otherB_iff c).1 h
      rw [e, List.drop_succ_cons]
      simp only [skipB, if_neg h']
      omega
    · have e : runN otherB (c :: r) = 0 := by simp [runN, h]
      have h' : c = 10 := by
        cases Decidable.em (c = 10) with
        | inl h0 => exact h0
        | inr h0 => exact absurd ((otherB_iff c).2 h0) h
      subst h'
      rw [e]
      simp [skipB]
theorem skip_hash (r : List UInt8) : skipB false (35 :: r) = skipB true (35 :: r) := by simp [skipB]
theorem skip_stop (c : UInt8) (r : List UInt8) (h : ¬ (c = 32 ∨ c = 10)) (h' : c ≠ 35) : skipB false (c :: r) = 0 := by
  simp only [skipB, if_neg h, if_neg h']
end Go.Proofs.YtpcihajmcejliaaGreatDoor
