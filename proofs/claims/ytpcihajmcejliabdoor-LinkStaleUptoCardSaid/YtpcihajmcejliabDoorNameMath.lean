/- Names, in plain Lean. -/
import Derived.Test.YtpcihajmcejliabDoorLexAgainMath
import Derived.Lib.IndexMore
namespace Go.Proofs.YtpcihajmcejliabDoor
open Go.RowKit
def reservedL : List (List UInt8) := [[100, 111], [101, 108, 115, 101], [103, 105, 118, 101, 115], [104, 105, 103, 104], [105, 102], [105, 109, 112, 111, 114, 116], [105, 110], [108, 111, 119], [109, 111, 100, 117, 108, 101], [111, 117, 116], [112, 114, 111, 99], [112, 117, 98], [114, 101, 116, 117, 114, 110], [119, 104, 105, 108, 101]]
def headB : List UInt8 → Bool
  | [] => false
  | c :: _ => letterB c.toNat
/-- a word of at most 16 bytes -/
def wordB (l : List UInt8) : Bool := headB l && decide (l.length ≤ 16) && l.all fun c => partB c.toNat
def nameB (l : List UInt8) : Bool := wordB l && !reservedL.contains l
namespace name
theorem runN_all (p : Int → Bool) (l : List UInt8) : runN p l = l.length ↔ l.all (fun c => p c.toNat) = true := by
  unfold runN
  induction l with
  | nil => simp
  | cons c r ih =>
    rw [List.takeWhile_cons]
    by_cases h : p c.toNat = true
    · simp only [h, if_true, List.length_cons, List.all_cons, Bool.true_and, ← ih]; omega
    · simp [h]
theorem scan_word (l : List UInt8) (h : wordB l = true) : scanF l = ([(1, 0, l.length)], 0, 0) := by
  simp only [wordB, Bool.and_eq_true, decide_eq_true_eq] at h
  obtain ⟨⟨h1, h2⟩, h3⟩ := h
  cases l with
  | nil => simp [headB] at h1
  | cons c r =>
    simp only [headB] at h1
    have hs : skipB false (c :: r) = 0 := skip_stop c r (again.part_not c (.inl h1)).1 (again.part_not c (.inl h1)).2
    have hr : runN partB (c :: r) = (c :: r).length := (runN_all _ _).2 h3
    have ht : tokF (c :: r) = (1, (c :: r).length, 0) := by
      simp only [tokF, h1, if_true, hr]
      rw [if_neg (by omega)]
    rw [scanF, if_neg (by omega), hs, scanTok, if_pos (by simp), List.drop_zero, ht]
    simp only [if_true, Nat.zero_add, List.drop_length, skipB, Nat.add_zero, List.nil_append]
    show scanTok (r.length + 1) _ _ _ = _
    rw [scanTok, if_neg (by simp)]
theorem word_of_scan (l : List UInt8) (p n : Nat) (a : Nat) (h : scanF l = ([(1, p, n)], 0, a)) (ht : (l.drop p).take n = l) : wordB l = true := by
  have hl : l.length ≤ 3000 := by
    rcases Nat.lt_or_ge 3000 l.length with h' | h'
    · rw [scanF, if_pos h'] at h; simp at h
    · exact h'
  rw [scanF, if_neg (by omega)] at h
  have hg := (again.scan_good l (l.length + 1) (skipB false l) [] (by simp)).1
  rw [h] at hg
  obtain ⟨g1, g2, g3⟩ := hg (1, p, n) (by simp)
  simp only at g1 g2 g3
  have hlen := congrArg List.length ht
  rw [List.length_take, List.length_drop] at hlen
  obtain rfl : p = 0 := by omega
  obtain rfl : n = l.length := by omega
  rw [List.drop_zero] at g1
  cases l with
  | nil => simp at g3
  | cons c r =>
    simp only [tokF] at g1
    by_cases hc : letterB c.toNat = true
    · simp only [hc, if_true, Prod.mk.injEq, true_and] at g1
      obtain ⟨k1, k2⟩ := g1
      have h16 : (c :: r).length ≤ 16 := by
        rcases Nat.lt_or_ge 16 (runN partB (c :: r)) with h' | h'
        · rw [if_pos h'] at k2; simp at k2
        · omega
      simp only [wordB, headB, hc, Bool.true_and, Bool.and_eq_true, decide_eq_true_eq]
      exact ⟨h16, (runN_all _ _).1 k1⟩
    · have hc' : letterB c.toNat = false := by simpa using hc
      simp only [hc', Bool.false_eq_true, if_false] at g1
      split at g1 <;> simp at g1
/-- words with a blank ahead of each and one behind the last -/
def row : List (List UInt8) → List UInt8
  | [] => [32]
  | x :: r => 32 :: (x ++ row r)
theorem row_head (ws : List (List UInt8)) : ∃ r, row ws = 32 :: r := by cases ws <;> exact ⟨_, rfl⟩
theorem split_blank (x y a b : List UInt8) (hx : ∀ c ∈ x, c ≠ 32) (hy : ∀ c ∈ y, c ≠ 32) (h : x ++ 32 :: a = y ++ 32 :: b) : x = y := by
  induction x generalizing y with
  | nil =>
    cases y with
    | nil => rfl
    | cons d q => simp at h; exact absurd h.1.symm (hy d (by simp))
  | cons c r ih =>
    cases y with
    | nil => simp at h; exact absurd h.1 (hx c (by simp))
    | cons d q =>
      simp at h
      rw [h.1, ih q (fun c hc => hx c (by simp [hc])) (fun c hc => hy c (by simp [hc])) h.2]
theorem infix_row (s : List UInt8) (hs : ∀ c ∈ s, c ≠ 32) : ∀ ws : List (List UInt8), (∀ x ∈ ws, ∀ c ∈ x, c ≠ 32) → ((32 :: (s ++ [32])) <:+: row ws ↔ s ∈ ws) := by
  intro ws
  induction ws with
  | nil =>
    intro _
    simp only [row, List.not_mem_nil, iff_false]
    intro h
    have := h.length_le
    simp at this
  | cons x r ih =>
    intro hw
    have hx := hw x (by simp)
    have ihr := ih (fun y hy => hw y (by simp [hy]))
    obtain ⟨q, hq⟩ := row_head r
    constructor
    · rintro ⟨a, b, hab⟩
      simp only [row] at hab
      cases a with
      | nil =>
        have e : s ++ 32 :: b = x ++ 32 :: q := by
          rw [← hq]
          simpa using hab
        simp [split_blank s x b q hs hx e]
      | cons c a' =>
        refine List.mem_cons_of_mem _ (ihr.1 ?_)
        have e : a' ++ (32 :: (s ++ [32])) ++ b = x ++ row r := by
          have := hab
          simp only [List.cons_append, List.cons.injEq] at this
          exact this.2
        clear hab ih ihr
        induction x generalizing a' with
        | nil => exact ⟨a', b, by simpa using e⟩
        | cons d x' ihx =>
          cases a' with
          | nil =>
            simp only [List.nil_append, List.cons_append, List.cons.injEq] at e
            exact absurd e.1.symm (hx d (by simp))
          | cons c' a'' =>
            simp only [List.cons_append, List.cons.injEq] at e
            exact ihx (fun y hy => by
              rcases List.mem_cons.1 hy with rfl | hy
              · exact fun c hc => hx c (by simp [hc])
              · exact hw y (by simp [hy])) (fun c hc => hx c (by simp [hc])) a'' e.2
    · intro h
      rcases List.mem_cons.1 h with rfl | h
      · exact ⟨[], q, by simp [row, hq]⟩
      · obtain ⟨a, b, hab⟩ := ihr.2 h
        exact ⟨32 :: (x ++ a), b, by simp [row, ← hab]⟩
theorem contains_iff (s sub : List UInt8) : Lib.contains s sub = true ↔ sub <:+: s := by
  simp only [Lib.contains, decide_eq_true_eq]
  rcases Lib.index_spec s sub with ⟨h1, h2⟩ | ⟨i, h1, h2, h3, _⟩
  · rw [h1]
    constructor
    · intro h; omega
    · rintro ⟨a, b, rfl⟩
      have := h2 a.length (by simp)
      have h3 : Lib.occAt (a ++ sub ++ b) sub a.length = true := by
        rw [Lib.occAt, List.append_assoc, List.drop_left]
        exact List.isPrefixOf_iff_prefix.2 ⟨b, rfl⟩
      rw [h3] at this; cases this
  · rw [h1]
    constructor
    · intro _
      obtain ⟨b, hb⟩ := List.isPrefixOf_iff_prefix.1 h3
      exact ⟨s.take i, b, by rw [List.append_assoc, hb, List.take_append_drop]⟩
    · intro _; omega
theorem words_row : row reservedL = [32, 100, 111, 32, 101, 108, 115, 101, 32, 103, 105, 118, 101, 115, 32, 104, 105, 103, 104, 32, 105, 102, 32, 105, 109, 112, 111, 114, 116, 32, 105, 110, 32, 108, 111, 119, 32, 109, 111, 100, 117, 108, 101, 32, 111, 117, 116, 32, 112, 114, 111, 99, 32, 112, 117, 98, 32, 114, 101, 116, 117, 114, 110, 32, 119, 104, 105, 108, 101, 32] := by decide
theorem contains_words (l : List UInt8) (h : wordB l = true) : Lib.contains [32, 100, 111, 32, 101, 108, 115, 101, 32, 103, 105, 118, 101, 115, 32, 104, 105, 103, 104, 32, 105, 102, 32, 105, 109, 112, 111, 114, 116, 32, 105, 110, 32, 108, 111, 119, 32, 109, 111, 100, 117, 108, 101, 32, 111, 117, 116, 32, 112, 114, 111, 99, 32, 112, 117, 98, 32, 114, 101, 116, 117, 114, 110, 32, 119, 104, 105, 108, 101, 32] (32 :: (l ++ [32])) = reservedL.contains l := by
  rw [Bool.eq_iff_iff, contains_iff, ← words_row, infix_row l, List.contains_iff_mem]
  · intro c hc e
    subst e
    simp only [wordB, Bool.and_eq_true, List.all_eq_true] at h
    exact absurd (h.2 _ hc) (by decide)
  · have key : ∀ x ∈ reservedL, ∀ c ∈ x, c ≠ 32 := by decide
    exact key
end name
end Go.Proofs.YtpcihajmcejliabDoor
