/- Tokens written one behind the other, with a blank between: plain Lean. -/
import Derived.Test.YtpcihajmcejliabGreatDoorLexB
import Derived.Test.YtpcihajmcejliabGreatDoorLexRef
namespace Go.Proofs.YtpcihajmcejliabGreatDoor
open Go.RowKit
namespace again
def text (l : List UInt8) (t : Tok) : List UInt8 := (l.drop t.2.1).take t.2.2
def joinL (l : List UInt8) : List Tok → List UInt8
  | [] => []
  | t :: r => text l t ++ 32 :: joinL l r
def Good (l : List UInt8) (t : Tok) : Prop := tokF (l.drop t.2.1) = (t.1, t.2.2, 0) ∧ t.2.1 + t.2.2 ≤ l.length ∧ t.2.1 < l.length
def placed : Nat → List Tok → List Tok
  | _, [] => []
  | p, t :: r => (t.1, p, t.2.2) :: placed (p + t.2.2 + 1) r
theorem take_run (p : Int → Bool) (m : List UInt8) : m.take (runN p m) = m.takeWhile fun c => p c.toNat := by
  unfold runN
  induction m with
  | nil => rfl
  | cons c r ih =>
    simp only [List.takeWhile_cons]
    split
    · simp [ih]
    · rfl
theorem run_all (p : Int → Bool) (h32 : p 32 = false) (x r : List UInt8) (h : ∀ c ∈ x, p c.toNat = true) : runN p (x ++ 32 :: r) = x.length := by
  unfold runN
  induction x with
  | nil =>
    simp [h32]
  | cons c q ih =>
    have hc := h c (by simp)
    simp [hc, ih (fun d hd => h d (by simp [hd]))]
theorem part32 : partB 32 = false := by decide
theorem signs_not (c : UInt8) (h : signsL.contains c = true) : ¬ (c = 32 ∨ c = 10) ∧ c ≠ 35 ∧ letterB c.toNat = false ∧ digitB c.toNat = false := by
  have key : ∀ c ∈ signsL, ¬ (c = 32 ∨ c = 10) ∧ c ≠ 35 ∧ letterB c.toNat = false ∧ digitB c.toNat = false := by decide
  exact key c (by simpa using h)
theorem part_not (c : UInt8) (h : letterB c.toNat = true ∨ digitB c.toNat = true) : ¬ (c = 32 ∨ c = 10) ∧ c ≠ 35 := by
  refine ⟨?_, ?_⟩
  · rintro (rfl | rfl) <;> exact absurd h (by decide)
  · rintro rfl; exact absurd h (by decide)
theorem all_take (p : UInt8 → Bool) (l : List UInt8) : ∀ d ∈ l.takeWhile p, p d = true := by
  induction l with
  | nil => intro d hd; simp at hd
  | cons c r ih =>
    intro d hd
    rw [List.takeWhile_cons] at hd
    split at hd
    · rename_i hc
      rcases List.mem_cons.1 hd with rfl | hd
      · exact hc
      · exact ih d hd
    · simp at hd
/-- a token stands again where it is written out with a blank behind it -/
theorem good_again (l : List UInt8) (t : Tok) (h : Good l t) (r : List UInt8) : tokF (text l t ++ 32 :: r) = (t.1, t.2.2, 0) ∧ skipB false (text l t ++ 32 :: r) = 0 ∧ (text l t).length = t.2.2 ∧ 1 ≤ t.2.2 := by
  obtain ⟨kd, p, n⟩ := t
  obtain ⟨h1, h2, h3⟩ := h
  simp only at h1 h2 h3
  have hpos := tok_pos (l.drop p) (by rw [h1])
  rw [h1] at hpos
  simp only at hpos
  have hlen : (text l (kd, p, n)).length = n := by simp only [text, List.length_take, List.length_drop]; omega
  suffices hs : tokF (text l (kd, p, n) ++ 32 :: r) = (kd, n, 0) ∧ skipB false (text l (kd, p, n) ++ 32 :: r) = 0 from ⟨hs.1, hs.2, hlen, hpos⟩
  simp only [text] at hlen ⊢
  cases hm : l.drop p with
  | nil => rw [hm] at h1; simp [tokF] at h1
  | cons c q =>
    rw [hm] at h1 hlen
    obtain ⟨n, rfl⟩ : ∃ m, n = m + 1 := ⟨n - 1, by omega⟩
    have hshape : (c :: q).take (n + 1) ++ 32 :: r = c :: (q.take n ++ 32 :: r) := rfl
    have hrun : runN partB (c :: q) = n + 1 → runN partB ((c :: q).take (n + 1) ++ 32 :: r) = n + 1 := by
      intro hn
      have ht := take_run partB (c :: q)
      rw [hn] at ht
      have := run_all partB part32 ((c :: q).take (n + 1)) r (by
        intro d hd
        rw [ht] at hd
        exact all_take _ _ d hd)
      rw [this, hlen]
    have htake : ((c :: q).take (n + 1) ++ 32 :: r).take (n + 1) = (c :: q).take (n + 1) := by
      rw [List.take_append_of_le_length (by omega), List.take_of_length_le (by omega)]
    rw [hshape] at hrun htake ⊢
    by_cases hl : letterB c.toNat = true
    · simp only [tokF, hl, if_true, Prod.mk.injEq] at h1
      obtain ⟨rfl, hn, he⟩ := h1
      refine ⟨?_, skip_stop c _ (part_not c (.inl hl)).1 (part_not c (.inl hl)).2⟩
      simp only [tokF, hl, if_true, hrun hn]
      rw [hn] at he
      rw [he]
    · by_cases hd : digitB c.toNat = true
      · simp only [tokF, hl, hd, if_true, Bool.false_eq_true, if_false, Prod.mk.injEq] at h1
        obtain ⟨rfl, hn, he⟩ := h1
        refine ⟨?_, skip_stop c _ (part_not c (.inr hd)).1 (part_not c (.inr hd)).2⟩
        simp only [tokF, hl, hd, if_true, Bool.false_eq_true, if_false, hrun hn, htake]
        rw [hn] at he
        rw [he]
      · simp only [tokF, hl, hd, Bool.false_eq_true, if_false, Prod.mk.injEq] at h1
        obtain ⟨rfl, hn, he⟩ := h1
        have hc : signsL.contains c = true := by
          cases hcn : signsL.contains c
          · by_cases hp : Lib.hasPrefix (c :: q) [61, 61] = true
            · obtain ⟨r', hr'⟩ := lex.two_first _ hp
              injection hr' with e1 _
              rw [e1] at hcn; exact absurd hcn (by decide)
            · exfalso
              unfold signN at hn
              rw [if_neg hp] at hn
              simp only [hcn, Bool.false_eq_true, if_false] at hn
              omega
          · rfl
        refine ⟨?_, skip_stop c _ (signs_not c hc).1 (signs_not c hc).2.1⟩
        have hs : signN (c :: (q.take n ++ 32 :: r)) = n + 1 := by
          by_cases hp : Lib.hasPrefix (c :: q) [61, 61] = true
          · have h2 : n + 1 = 2 := by rw [← hn]; unfold signN; rw [if_pos hp]
            obtain rfl : n = 1 := by omega
            have h3 := List.isPrefixOf_iff_prefix.1 hp
            cases q with
            | nil => simp at h3
            | cons d q' =>
              simp only [List.cons_prefix_cons, List.nil_prefix, and_true] at h3
              obtain ⟨rfl, rfl⟩ := h3
              unfold signN
              rw [if_pos (by rfl)]
          · have h2 : n + 1 = 1 := by
              rw [← hn]; unfold signN; rw [if_neg hp]; simp only [hc, if_true]
            obtain rfl : n = 0 := by omega
            unfold signN
            rw [if_neg (by simp [Lib.hasPrefix])]
            simp only [hc, if_true]
        simp only [tokF, hl, hd, Bool.false_eq_true, if_false, hs]
        rw [if_neg (by omega)]
theorem skip_join (l : List UInt8) (ts : List Tok) (h : ∀ t ∈ ts, Good l t) : skipB false (joinL l ts) = 0 := by
  cases ts with
  | nil => rfl
  | cons t r => exact (good_again l t (h t (by simp)) _).2.1
theorem scan_join (l J : List UInt8) : ∀ (ts : List Tok) (f p : Nat) (acc : List Tok), (∀ t ∈ ts, Good l t) → J.drop p = joinL l ts → ts.length < f → scanTok f J p acc = (acc ++ placed p ts, 0, 0) := by
  intro ts
  induction ts with
  | nil =>
    intro f p acc _ hJ hf
    obtain ⟨f, rfl⟩ : ∃ g, f = g + 1 := ⟨f - 1, by simp at hf; omega⟩
    have : ¬ p < J.length := by
      intro h
      rw [List.drop_eq_getElem_cons h] at hJ
      cases hJ
    rw [scanTok, if_neg this]
    simp [placed]
  | cons t r ih =>
    intro f p acc hg hJ hf
    obtain ⟨f, rfl⟩ : ∃ g, f = g + 1 := ⟨f - 1, by simp at hf; omega⟩
    obtain ⟨h1, h2, h3, h4⟩ := good_again l t (hg t (by simp)) (joinL l r)
    have hp : p < J.length := by
      rcases Nat.lt_or_ge p J.length with h | h
      · exact h
      · rw [List.drop_eq_nil_of_le h] at hJ
        simp [joinL] at hJ
    have hd : J.drop (p + t.2.2) = 32 :: joinL l r := by
      rw [← List.drop_drop, hJ, joinL, ← h3, List.drop_left]
    have hd1 : J.drop (p + t.2.2 + 1) = joinL l r := by
      rw [← List.drop_drop, hd]; rfl
    have hs : skipB false (32 :: joinL l r) = 1 := by
      have := skip_join l r (fun x hx => hg x (by simp [hx]))
      simp [skipB, this]
    rw [scanTok, if_pos hp, hJ, joinL, h1]
    simp only [if_true]
    rw [hd, hs, ih f _ _ (fun x hx => hg x (by simp [hx])) hd1 (by simp at hf; omega)]
    simp [placed]
theorem tokF_le (l : List UInt8) : (tokF l).2.1 ≤ l.length := by
  cases l with
  | nil => simp [tokF]
  | cons c r =>
    simp only [tokF]
    split
    · exact runN_le _ _
    · split
      · exact runN_le _ _
      · exact rlex.signN_le _
theorem scan_good (l : List UInt8) : ∀ (f p : Nat) (acc : List Tok), (∀ t ∈ acc, Good l t) → (∀ t ∈ (scanTok f l p acc).1, Good l t) ∧ ((scanTok f l p acc).1.map (·.2.2)).sum ≤ (acc.map (·.2.2)).sum + (l.length - p) := by
  intro f
  induction f with
  | zero => intro p acc h; simp [scanTok]
  | succ f ih =>
    intro p acc h
    rw [scanTok]
    split
    · rename_i hp
      simp only
      split
      · rename_i he
        have hle := tokF_le (l.drop p)
        rw [List.length_drop] at hle
        have hg : Good l ((tokF (l.drop p)).1, p, (tokF (l.drop p)).2.1) := by
          refine ⟨?_, by simp only; omega, hp⟩
          simp only
          rw [← he]
        obtain ⟨i1, i2⟩ := ih (p + (tokF (l.drop p)).2.1 + skipB false (l.drop (p + (tokF (l.drop p)).2.1))) (acc ++ [((tokF (l.drop p)).1, p, (tokF (l.drop p)).2.1)]) (by
          intro t ht
          rcases List.mem_append.1 ht with ht | ht
          · exact h t ht
          · simp at ht; subst ht; exact hg)
        refine ⟨i1, Nat.le_trans i2 ?_⟩
        simp only [List.map_append, List.map_cons, List.map_nil, List.sum_append, List.sum_cons, List.sum_nil]
        omega
      · exact ⟨by simp, by simp⟩
    · exact ⟨h, by simp only; omega⟩
theorem join_length (l : List UInt8) (ts : List Tok) (h : ∀ t ∈ ts, Good l t) : (joinL l ts).length = (ts.map (·.2.2)).sum + ts.length ∧ ts.length ≤ (ts.map (·.2.2)).sum := by
  induction ts with
  | nil => simp [joinL]
  | cons t r ih =>
    obtain ⟨i1, i2⟩ := ih (fun x hx => h x (by simp [hx]))
    obtain ⟨_, _, h3, h4⟩ := good_again l t (h t (by simp)) []
    simp only [joinL, List.length_append, List.length_cons, List.map_cons, List.sum_cons, h3, i1]
    omega
theorem placed_length (ts : List Tok) : ∀ p, (placed p ts).length = ts.length := by
  induction ts with
  | nil => intro p; rfl
  | cons t r ih => intro p; simp [placed, ih]
theorem placed_text (l J : List UInt8) : ∀ (ts : List Tok) (p : Nat), (∀ t ∈ ts, Good l t) → J.drop p = joinL l ts → ∀ (i : Nat) (hi : i < ts.length), ((placed p ts)[i]'(by rw [placed_length]; exact hi)).1 = ts[i].1 ∧ text J ((placed p ts)[i]'(by rw [placed_length]; exact hi)) = text l ts[i] := by
  intro ts
  induction ts with
  | nil => intro p _ _ i hi; simp at hi
  | cons t r ih =>
    intro p hg hJ i hi
    obtain ⟨h1, h2, h3, h4⟩ := good_again l t (hg t (by simp)) (joinL l r)
    cases i with
    | zero =>
      refine ⟨rfl, ?_⟩
      show (J.drop p).take t.2.2 = text l t
      rw [hJ, joinL, ← h3, List.take_left]
    | succ i =>
      have hd : J.drop (p + t.2.2 + 1) = joinL l r := by
        have : J.drop (p + t.2.2) = 32 :: joinL l r := by
          rw [← List.drop_drop, hJ, joinL, ← h3, List.drop_left]
        rw [← List.drop_drop, this]; rfl
      exact ih _ (fun x hx => hg x (by simp [hx])) hd i (by simpa using hi)
/-- the whole law, for a text of at most 1000 bytes that has tokens -/
theorem scan_again (l : List UInt8) (hl : l.length ≤ 1000) (ts : List Tok) (a : Nat) (h : scanF l = (ts, 0, a)) : (∀ t ∈ ts, Good l t) ∧ (joinL l ts).length ≤ 2000 ∧ scanF (joinL l ts) = (placed 0 ts, 0, 0) := by
  rw [scanF, if_neg (by omega)] at h
  obtain ⟨h1, h2⟩ := scan_good l (l.length + 1) (skipB false l) [] (by simp)
  rw [h] at h1 h2
  simp only [List.map_nil, List.sum_nil, Nat.zero_add] at h2
  obtain ⟨h3, h4⟩ := join_length l ts h1
  refine ⟨h1, by omega, ?_⟩
  rw [scanF, if_neg (by omega), skip_join l ts h1]
  have := scan_join l (joinL l ts) ts ((joinL l ts).length + 1) 0 [] h1 rfl (by omega)
  simpa using this
end again
end Go.Proofs.YtpcihajmcejliabGreatDoor
