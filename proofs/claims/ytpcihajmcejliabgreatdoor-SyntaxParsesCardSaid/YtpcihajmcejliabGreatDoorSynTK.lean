/- The parser in plain Lean: enough fuel always; and what scanning a text gives. What scanning a text gives the parser. -/
import Derived.Test.YtpcihajmcejliabGreatDoorSynMC
import Derived.Test.YtpcihajmcejliabGreatDoorSynA
namespace Go.Proofs.YtpcihajmcejliabGreatDoor
open Go.RowKit
/-- how much fuel a thing asks for beside what its tokens ask for -/
def NT.rank : NT → Nat
  | .loop _ _ => 1
  | .unary => 4
  | .asked => 1
  | .place _ => 1
  | .call _ => 1
  | .bound k => 5 + (4 - k)
  | .expr => 10
  | .args _ _ => 11
  | .block => 1
  | .stats _ => 2
  | .stat => 1
  | .decl => 1
  | .proc _ => 1
  | .params _ _ _ => 1
  | .module => 1
  | .imports _ _ => 3
  | .decls _ _ => 2
namespace synm
theorem bind_in {α β : Type} {o : Out α} {f : α → List Tk → Out β} (h1 : o ≠ .out) (h2 : ∀ x l, o = .got x l → f x l ≠ .out) : o.bind f ≠ .out := by
  cases o with
  | out => exact absurd rfl h1
  | bad l => intro h; cases h
  | got x l => exact h2 x l rfl
theorem need_in (s : ByteArray) (l : List Tk) : pNeed s l ≠ .out := by unfold pNeed; split <;> intro h <;> cases h
theorem name_in (l : List Tk) : pName l ≠ .out := by
  cases l with
  | nil => intro h; cases h
  | cons t r =>
    simp only [pName, ne_eq]
    split <;> simp
theorem whole_in (l : List Tk) : pWhole l ≠ .out := by
  unfold pWhole
  refine bind_in (name_in _) fun s l _ => ?_
  split
  · exact bind_in (name_in _) fun _ _ _ h => by cases h
  · intro h; cases h
theorem label_in (l : List Tk) : pLabel l ≠ .out := by
  unfold pLabel
  split
  · intro h; cases h
  · exact bind_in (need_in _ _) fun _ _ _ h => by cases h
theorem number_in (l : List Tk) : pNumber l ≠ .out := by
  cases l with
  | nil => intro h; cases h
  | cons t r =>
    simp only [pNumber, ne_eq]
    split <;> simp
theorem semi_in (x : Nd) (l : List Tk) : semi x l ≠ .out := bind_in (need_in _ _) fun _ _ _ h => by cases h
theorem got_in {α : Type} (x : α) (l : List Tk) : Out.got x l ≠ .out := fun h => by cases h
theorem prs_in : ∀ (n : Nat) (X : NT) (l : List Tk), 20 * l.length + X.rank < n → prs n X l ≠ .out := by
  intro n
  induction n with
  | zero => intro X l h; omega
  | succ n ih =>
    intro X l h
    cases X with
    | expr => simp only [prs]; exact ih _ _ (by simp only [NT.rank] at h ⊢; omega)
    | bound k =>
      simp only [prs]
      split
      · exact ih _ _ (by simp only [NT.rank] at h ⊢; omega)
      · refine bind_in (ih _ _ (by simp only [NT.rank] at h ⊢; omega)) fun x r hx => ?_
        have a := prs_lt _ _ _ _ _ hx
        exact ih _ _ (by simp only [NT.rank, NT.weak] at h a ⊢; omega)
    | loop k x =>
      simp only [prs]
      split
      · rename_i hk
        have := head_lt hk.1
        refine bind_in (ih _ _ (by simp only [NT.rank] at h ⊢; omega)) fun y r hy => ?_
        have a := prs_lt _ _ _ _ _ hy
        split
        · exact got_in _ _
        · exact ih _ _ (by simp only [NT.rank, NT.weak] at h a ⊢; omega)
      · exact got_in _ _
    | unary =>
      simp only [prs]
      split
      · rename_i hb
        have := tail_lt hb
        exact bind_in (ih _ _ (by simp only [NT.rank] at h ⊢; omega)) fun _ _ _ => got_in _ _
      split
      · rename_i hb
        have := tail_lt hb
        exact bind_in (ih _ _ (by simp only [NT.rank] at h ⊢; omega)) fun _ _ _ => got_in _ _
      split
      · exact ih _ _ (by simp only [NT.rank] at h ⊢; omega)
      split
      · exact number_in _
      · refine bind_in (whole_in _) fun s r hs => ?_
        have := whole_lt hs
        split
        · exact ih _ _ (by simp only [NT.rank] at h ⊢; omega)
        · exact ih _ _ (by simp only [NT.rank] at h ⊢; omega)
    | asked =>
      simp only [prs]
      refine bind_in (need_in _ _) fun _ r hs => ?_
      have := need_lt hs
      refine bind_in (ih _ _ (by simp only [NT.rank] at h ⊢; omega)) fun _ _ _ => bind_in (need_in _ _) fun _ _ _ => got_in _ _
    | place s =>
      simp only [prs]
      split
      · rename_i hb
        have := tail_lt hb
        refine bind_in (ih _ _ (by simp only [NT.rank] at h ⊢; omega)) fun _ _ _ => bind_in (need_in _ _) fun _ _ _ => got_in _ _
      · exact got_in _ _
    | call s =>
      simp only [prs]
      refine bind_in (need_in _ _) fun _ r hs => ?_
      have := need_lt hs
      exact ih _ _ (by simp only [NT.rank] at h ⊢; omega)
    | args s acc =>
      simp only [prs]
      split
      · exact bind_in (need_in _ _) fun _ _ _ => got_in _ _
      · refine bind_in (ih _ _ (by simp only [NT.rank] at h ⊢; omega)) fun x r hx => ?_
        have a := prs_lt _ _ _ _ _ hx
        split
        · rename_i hb
          have := tail_lt hb
          exact ih _ _ (by simp only [NT.rank, NT.weak] at h a ⊢; omega)
        · exact bind_in (need_in _ _) fun _ _ _ => got_in _ _
    | block =>
      simp only [prs]
      refine bind_in (need_in _ _) fun _ r hs => ?_
      have := need_lt hs
      exact ih _ _ (by simp only [NT.rank] at h ⊢; omega)
    | stats acc =>
      simp only [prs]
      split
      · exact got_in _ _
      · refine bind_in (ih _ _ (by simp only [NT.rank] at h ⊢; omega)) fun x r hx => ?_
        have a := prs_lt _ _ _ _ _ hx
        exact ih _ _ (by simp only [NT.rank, NT.weak] at h a ⊢; omega)
    | stat =>
      simp only [prs]
      simp only [NT.rank] at h
      split
      · refine bind_in (label_in _) fun _ r h1 => bind_in (name_in _) fun _ r2 h2 => bind_in (need_in _ _) fun _ r3 h3 => ?_
        have := label_lt h1; have := name_lt h2; have := need_lt h3
        exact bind_in (ih _ _ (by simp only [NT.rank]; omega)) fun _ _ _ => semi_in _ _
      split
      · rename_i hb
        have := tail_lt hb
        refine bind_in (whole_in _) fun _ r h1 => ?_
        have := whole_lt h1
        exact bind_in (ih _ _ (by simp only [NT.rank]; omega)) fun _ _ _ => semi_in _ _
      split
      · rename_i hb
        have := tail_lt hb
        refine bind_in (ih _ _ (by simp only [NT.rank]; omega)) fun _ _ h1 => ?_
        have a := prs_lt _ _ _ _ _ h1
        refine bind_in (ih _ _ (by simp only [NT.rank]; omega)) fun _ _ h2 => ?_
        have b := prs_lt _ _ _ _ _ h2
        split
        · rename_i hb2
          have := tail_lt hb2
          exact bind_in (ih _ _ (by simp only [NT.rank]; omega)) fun _ _ _ => got_in _ _
        · exact got_in _ _
      split
      · rename_i hb
        have := tail_lt hb
        refine bind_in (ih _ _ (by simp only [NT.rank]; omega)) fun _ _ h1 => ?_
        have a := prs_lt _ _ _ _ _ h1
        exact bind_in (ih _ _ (by simp only [NT.rank]; omega)) fun _ _ _ => got_in _ _
      split
      · rename_i hb
        have := tail_lt hb
        refine bind_in (label_in _) fun _ r h1 => ?_
        have := label_lt h1
        exact bind_in (ih _ _ (by simp only [NT.rank]; omega)) fun _ _ _ => semi_in _ _
      split
      · rename_i hb
        have := tail_lt hb
        refine bind_in (label_in _) fun _ r h1 => bind_in (whole_in _) fun _ r2 h2 => ?_
        have := label_lt h1; have := whole_lt h2
        exact bind_in (ih _ _ (by simp only [NT.rank]; omega)) fun _ _ _ => semi_in _ _
      split
      · rename_i hb
        have := tail_lt hb
        exact bind_in (ih _ _ (by simp only [NT.rank]; omega)) fun _ _ _ => semi_in _ _
      · refine bind_in (whole_in _) fun _ r h1 => ?_
        have := whole_lt h1
        refine bind_in (ih _ _ (by simp only [NT.rank]; omega)) fun _ r2 h2 => ?_
        have a := prs_lt _ _ _ _ _ h2
        refine bind_in (need_in _ _) fun _ r3 h3 => ?_
        have := need_lt h3
        exact bind_in (ih _ _ (by simp only [NT.rank]; omega)) fun _ _ _ => semi_in _ _
    | decl =>
      simp only [prs]
      simp only [NT.rank] at h
      obtain ⟨l2, hl2, hle⟩ : ∃ l2, (if isB l [sPub] = true then l.tail else l) = l2 ∧ l2.length ≤ l.length := by
        refine ⟨_, rfl, ?_⟩
        split
        · rename_i hb; have := tail_lt hb; omega
        · exact Nat.le_refl _
      rw [hl2]
      split
      · rename_i hb
        have := tail_lt hb
        exact ih _ _ (by simp only [NT.rank]; omega)
      · refine bind_in (label_in _) fun _ r h1 => bind_in (name_in _) fun _ r2 h2 => ?_
        split
        · exact bind_in (number_in _) fun _ _ _ => bind_in (need_in _ _) fun _ _ _ => semi_in _ _
        · exact semi_in _ _
    | proc pub =>
      simp only [prs]
      simp only [NT.rank] at h
      refine bind_in (name_in _) fun _ r h1 => bind_in (need_in _ _) fun _ r2 h2 => ?_
      have := name_lt h1; have := need_lt h2
      exact ih _ _ (by simp only [NT.rank]; omega)
    | params s pub acc =>
      simp only [NT.rank] at h
      have done : ∀ (acc : List Nd) (l2 : List Tk), l2.length ≤ l.length → ((pNeed sClose l2).bind fun _ l => (pLabel l).bind fun b l =>
          if isB l [sGives] = true then (pLabel l.tail).bind fun g l => (prs n .block l).bind fun x l => Out.got (Nd.mk 4 s (pub + b + (4 + 4 * g)) (acc ++ [x])) l
          else (prs n .block l).bind fun x l => Out.got (Nd.mk 4 s (pub + b) (acc ++ [x])) l) ≠ Out.out := by
        intro acc l2 hle
        refine bind_in (need_in _ _) fun _ r h1 => bind_in (label_in _) fun _ r2 h2 => ?_
        have := need_lt h1; have := label_lt h2
        split
        · rename_i hb
          have := tail_lt hb
          refine bind_in (label_in _) fun _ r3 h3 => ?_
          have := label_lt h3
          exact bind_in (ih _ _ (by simp only [NT.rank]; omega)) fun _ _ _ => got_in _ _
        · exact bind_in (ih _ _ (by simp only [NT.rank]; omega)) fun _ _ _ => got_in _ _
      simp only [prs]
      split
      · exact done _ _ (Nat.le_refl _)
      · refine bind_in (label_in _) fun _ r h1 => bind_in (name_in _) fun _ r2 h2 => ?_
        have := label_lt h1; have := name_lt h2
        split
        · rename_i hb
          have := tail_lt hb
          exact ih _ _ (by simp only [NT.rank]; omega)
        · exact done _ _ (by omega)
    | module =>
      simp only [prs]
      simp only [NT.rank] at h
      refine bind_in (need_in _ _) fun _ r h1 => bind_in (name_in _) fun _ r2 h2 => bind_in (need_in _ _) fun _ r3 h3 => ?_
      have := need_lt h1; have := name_lt h2; have := need_lt h3
      exact ih _ _ (by simp only [NT.rank]; omega)
    | imports s acc =>
      simp only [prs]
      simp only [NT.rank] at h
      split
      · rename_i hb
        have := tail_lt hb
        refine bind_in (name_in _) fun _ r2 h2 => bind_in (need_in _ _) fun _ r3 h3 => ?_
        have := name_lt h2; have := need_lt h3
        exact ih _ _ (by simp only [NT.rank]; omega)
      · exact ih _ _ (by simp only [NT.rank]; omega)
    | decls s acc =>
      simp only [prs]
      simp only [NT.rank] at h
      split
      · exact got_in _ _
      · refine bind_in (ih _ _ (by simp only [NT.rank]; omega)) fun x r hx => ?_
        have a := prs_lt _ _ _ _ _ hx
        exact ih _ _ (by simp only [NT.rank, NT.weak] at a ⊢; omega)
end synm
end Go.Proofs.YtpcihajmcejliabGreatDoor
namespace Go.Proofs.YtpcihajmcejliabGreatDoor
open Go.RowKit
/-- the tokens of a text -/
def tkOf (s : ByteArray) (t : Tok) : Tk := ⟨t.1, s.extract t.2.1 (t.2.1 + t.2.2), t.2.1⟩
def tksOf (s : ByteArray) (l : List Tok) : List Tk := l.map (tkOf s)
namespace synk
theorem numeral_ok {l : List UInt8} (h : numeralF l = 0) : digs l = true ∧ decFrom 0 l < 9223372036854775808 := by
  unfold numeralF at h
  split at h
  · cases h
  · rename_i h1
    split at h
    · cases h
    · split at h
      · cases h
      · rename_i h3
        exact ⟨by simpa using h1, by omega⟩
theorem take_all (l : List UInt8) : (l.take (runN partB l)).all (fun c => partB c.toNat) = true := by
  rw [again.take_run, List.all_eq_true]
  intro x hx
  have := List.all_takeWhile (l := l) (p := fun c => partB c.toNat)
  rw [List.all_eq_true] at this
  exact this x hx
theorem flat_cells (s : ByteArray) : ∀ (T : List Tok) (j : Nat) (h : j < T.length) (i : Nat) (_ : i < 3), (tokCells s T)[j * 3 + i]? = (Tok.cells s T[j])[i]? := by
  intro T
  induction T with
  | nil => intro j h; cases h
  | cons t r ih =>
    intro j h i hi
    have hl : (Tok.cells s t).length = 3 := rfl
    have e : tokCells s (t :: r) = Tok.cells s t ++ tokCells s r := by simp [tokCells]
    rw [e]
    cases j with
    | zero => rw [List.getElem?_append_left (by omega)]; simp
    | succ j =>
      rw [List.getElem?_append_right (by omega), show (j + 1) * 3 + i - (Tok.cells s t).length = j * 3 + i by omega, ih j (by simpa using h) i hi]
      simp
theorem tk_ok (s : ByteArray) (hs : s.size ≤ 3000) (t : Tok) (h : again.Good s.data.toList t) : TkOk (tkOf s t) := by
  obtain ⟨k, p, n⟩ := t
  obtain ⟨h1, h2, h3⟩ := h
  simp only at h1 h2 h3
  have hlen : s.data.toList.length = s.size := by rw [Array.length_toList]; rfl
  have htx : (tkOf s (k, p, n)).text.data.toList = (s.data.toList.drop p).take n := lex.extract_list s p n
  have hsz : (tkOf s (k, p, n)).text.size ≤ 3000 := by
    have e : (tkOf s (k, p, n)).text.size = (tkOf s (k, p, n)).text.data.toList.length := by rw [Array.length_toList]; rfl
    rw [e, htx, List.length_take, List.length_drop]
    omega
  obtain ⟨c, r, hm⟩ : ∃ c r, s.data.toList.drop p = c :: r := by
    cases hd : s.data.toList.drop p with
    | nil =>
      have := congrArg List.length hd
      rw [List.length_drop] at this
      simp only [List.length_nil] at this
      omega
    | cons c r => exact ⟨c, r, rfl⟩
  rw [hm] at h1 htx
  simp only [tokF] at h1
  split at h1
  · rename_i hl
    simp only [Prod.mk.injEq] at h1
    obtain ⟨rfl, rfl, h4⟩ := h1
    have hn : runN partB (c :: r) ≤ 16 := by
      rcases Nat.lt_or_ge 16 (runN partB (c :: r)) with h5 | h5
      · rw [if_pos h5] at h4; cases h4
      · exact h5
    have hpos : 1 ≤ runN partB (c :: r) := by simp [runN, partB, hl]
    refine ⟨⟨by simp [tkOf], by simp [tkOf]⟩, hsz, fun _ => ?_, fun e => (by cases e), fun e => (by cases e)⟩
    rw [htx]
    unfold wordB
    rw [take_all, Bool.and_true, Bool.and_eq_true, decide_eq_true_eq, List.length_take]
    refine ⟨?_, by omega⟩
    obtain ⟨q, hq⟩ : ∃ q, runN partB (c :: r) = q + 1 := ⟨runN partB (c :: r) - 1, by omega⟩
    rw [hq, List.take_succ_cons]
    exact hl
  · split at h1
    · rename_i hl hd
      simp only [Prod.mk.injEq] at h1
      obtain ⟨rfl, rfl, h4⟩ := h1
      have hpos : 1 ≤ runN partB (c :: r) := by simp [runN, partB, hd]
      refine ⟨⟨by simp [tkOf], by simp [tkOf]⟩, hsz, fun e => (by cases e), fun _ => ?_, fun e => (by cases e)⟩
      rw [htx]
      obtain ⟨h5, h6⟩ := numeral_ok h4
      refine ⟨h5, ?_, h6⟩
      obtain ⟨q, hq⟩ : ∃ q, runN partB (c :: r) = q + 1 := ⟨runN partB (c :: r) - 1, by omega⟩
      rw [hq, List.take_succ_cons]
      simp
    · rename_i hl hd
      simp only [Prod.mk.injEq] at h1
      obtain ⟨rfl, rfl, h4⟩ := h1
      refine ⟨⟨by simp [tkOf], by simp [tkOf]⟩, hsz, fun e => (by cases e), fun e => (by cases e), fun _ => ?_⟩
      rw [htx]
      unfold wordB
      have : headB ((c :: r).take (signN (c :: r))) = false := by
        cases hs : signN (c :: r) with
        | zero => rfl
        | succ q =>
          rw [List.take_succ_cons]
          simpa [headB] using hl
      rw [this]; rfl
theorem scan_tks (s : ByteArray) (T : List Tok) (a : Nat) (h : scanF s.data.toList = (T, 0, a)) : s.size ≤ 3000 ∧ (∀ t ∈ tksOf s T, TkOk t) ∧ T.length ≤ 3001 := by
  have hlen : s.data.toList.length = s.size := by rw [Array.length_toList]; rfl
  have h0 := h
  rw [scanF] at h
  split at h
  · cases h
  · rename_i hle
    obtain ⟨h1, h2⟩ := again.scan_good s.data.toList (s.data.toList.length + 1) (skipB false s.data.toList) [] (by simp)
    rw [h] at h1
    refine ⟨by omega, fun t ht => ?_, ?_⟩
    · obtain ⟨t', ht', rfl⟩ := List.mem_map.1 ht
      exact tk_ok s (by omega) t' (h1 t' ht')
    · have := lexTells.scan_length (s.data.toList.length + 1) s.data.toList (skipB false s.data.toList) []
      rw [h] at this
      simp only [List.length_nil] at this
      omega
/-- the tokens lie in a row of the call's own -/
theorem tks_in {w : World} {B : Nat} {s : ByteArray} {T : List Tok} {v : Value} (h : w.ownsRow B 163 3 v T.length (tokCells s T)) (hok : ∀ t ∈ tksOf s T, TkOk t) : ∃ a c, v = .slice a T.length c ∧ TksIn w a 0 (tksOf s T) := by
  have h9 := h
  obtain ⟨h1, h2⟩ := h
  rcases h2 with ⟨rfl, h0⟩ | ⟨g, cap, cur, rfl, hb, hh, -⟩
  · refine ⟨none, 0, by rw [h0], fun j hj => ?_⟩
    simp [tksOf, h0] at hj
  · refine ⟨_, cap, rfl, fun j hj => ⟨g, 0, rfl, (Array.getElem?_eq_some_iff.1 hh).1, ?_⟩⟩
    have hjl : j < T.length := by simpa [tksOf] using hj
    have e : (tksOf s T)[j] = tkOf s T[j] := by simp [tksOf]
    have hcell : ∀ i, i < 3 → w.cell? ⟨g, 0 + (0 + j) * 3 + i, none⟩ = (Tok.cells s T[j])[i]? := fun i hi => by
      rw [show 0 + (0 + j) * 3 + i = j * 3 + i by omega, h9.cellAt (j * 3 + i) (by omega)]
      have := flat_cells s T j hjl i hi
      exact this
    rw [e]
    exact ⟨(hcell 0 (by decide)).trans rfl, (hcell 1 (by decide)).trans rfl, (hcell 2 (by decide)).trans rfl, by rw [← e]; exact hok _ (List.getElem_mem hj)⟩
end synk
end Go.Proofs.YtpcihajmcejliabGreatDoor
