/- Names, in plain Lean. The walks of syntax.IsName and of the reference's Name. -/
import Derived.Test.YtpcihajmcejliabGreatDoorLexAgainMath
import Derived.Lib.IndexMore
namespace Go.Proofs.YtpcihajmcejliabGreatDoor
open Go.RowKit
def reservedL : List (List UInt8) := [[100, 111], [101, 108, 115, 101], [103, 105, 118, 101, 115], [104, 105, 103, 104], [105, 102], [105, 109, 112, 111, 114, 116], [105, 110], [108, 111, 119], [109, 111, 100, 117, 108, 101], [111, 117, 116], [112, 114, 111, 99], [112, 117, 98], [114, 101, 116, 117, 114, 110], [119, 104, 105, 108, 101]]
def headB : List UInt8 → Bool
  | [] => false
  | c :: _ => letterB c.toNat
/-- a word of at most 16 bytes -/
def wordB (l : List UInt8) : Bool := headB l && decide (l.length ≤ 16) && l.all fun c => partB c.toNat
def nameB (l : List UInt8) : Bool := wordB l && !reservedL.contains l
namespace name
theorem runN_all (p : Int → Bool) (l : List UInt8) : runN p l = l.length ↔ l.all (fun c => p c.toNat) = true := by
  unfold runN
  induction l with
  | nil => simp
  | cons c r ih =>
    rw [List.takeWhile_cons]
    by_cases h : p c.toNat = true
    · simp only [h, if_true, List.length_cons, List.all_cons, Bool.true_and, ← ih]; omega
    · simp [h]
theorem scan_word (l : List UInt8) (h : wordB l = true) : scanF l = ([(1, 0, l.length)], 0, 0) := by
  simp only [wordB, Bool.and_eq_true, decide_eq_true_eq] at h
  obtain ⟨⟨h1, h2⟩, h3⟩ := h
  cases l with
  | nil => simp [headB] at h1
  | cons c r =>
    simp only [headB] at h1
    have hs : skipB false (c :: r) = 0 := skip_stop c r (again.part_not c (.inl h1)).1 (again.part_not c (.inl h1)).2
    have hr : runN partB (c :: r) = (c :: r).length := (runN_all _ _).2 h3
    have ht : tokF (c :: r) = (1, (c :: r).length, 0) := by
      simp only [tokF, h1, if_true, hr]
      rw [if_neg (by omega)]
    rw [scanF, if_neg (by omega), hs, scanTok, if_pos (by simp), List.drop_zero, ht]
    simp only [if_true, Nat.zero_add, List.drop_length, skipB, Nat.add_zero, List.nil_append]
    show scanTok (r.length + 1) _ _ _ = _
    rw [scanTok, if_neg (by simp)]
theorem word_of_scan (l : List UInt8) (p n : Nat) (a : Nat) (h : scanF l = ([(1, p, n)], 0, a)) (ht : (l.drop p).take n = l) : wordB l = true := by
  have hl : l.length ≤ 3000 := by
    rcases Nat.lt_or_ge 3000 l.length with h' | h'
    · rw [scanF, if_pos h'] at h; simp at h
    · exact h'
  rw [scanF, if_neg (by omega)] at h
  have hg := (again.scan_good l (l.length + 1) (skipB false l) [] (by simp)).1
  rw [h] at hg
  obtain ⟨g1, g2, g3⟩ := hg (1, p, n) (by simp)
  simp only at g1 g2 g3
  have hlen := congrArg List.length ht
  rw [List.length_take, List.length_drop] at hlen
  obtain rfl : p = 0 := by omega
  obtain rfl : n = l.length := by omega
  rw [List.drop_zero] at g1
  cases l with
  | nil => simp at g3
  | cons c r =>
    simp only [tokF] at g1
    by_cases hc : letterB c.toNat = true
    · simp only [hc, if_true, Prod.mk.injEq, true_and] at g1
      obtain ⟨k1, k2⟩ := g1
      have h16 : (c :: r).length ≤ 16 := by
        rcases Nat.lt_or_ge 16 (runN partB (c :: r)) with h' | h'
        · rw [if_pos h'] at k2; simp at k2
        · omega
      simp only [wordB, headB, hc, Bool.true_and, Bool.and_eq_true, decide_eq_true_eq]
      exact ⟨h16, (runN_all _ _).1 k1⟩
    · have hc' : letterB c.toNat = false := by simpa using hc
      simp only [hc', Bool.false_eq_true, if_false] at g1
      split at g1 <;> simp at g1
/-- words with a blank ahead of each and one behind the last -/
def row : List (List UInt8) → List UInt8
  | [] => [32]
  | x :: r => 32 :: (x ++ row r)
theorem row_head (ws : List (List UInt8)) : ∃ r, row ws = 32 :: r := by cases ws <;> exact ⟨_, rfl⟩
theorem split_blank (x y a b : List UInt8) (hx : ∀ c ∈ x, c ≠ 32) (hy : ∀ c ∈ y, c ≠ 32) (h : x ++ 32 :: a = y ++ 32 :: b) : x = y := by
  induction x generalizing y with
  | nil =>
    cases y with
    | nil => rfl
    | cons d q => simp at h; exact absurd h.1.symm (hy d (by simp))
  | cons c r ih =>
    cases y with
    | nil => simp at h; exact absurd h.1 (hx c (by simp))
    | cons d q =>
      simp at h
      rw [h.1, ih q (fun c hc => hx c (by simp [hc])) (fun c hc => hy c (by simp [hc])) h.2]
theorem infix_row (s : List UInt8) (hs : ∀ c ∈ s, c ≠ 32) : ∀ ws : List (List UInt8), (∀ x ∈ ws, ∀ c ∈ x, c ≠ 32) → ((32 :: (s ++ [32])) <:+: row ws ↔ s ∈ ws) := by
  intro ws
  induction ws with
  | nil =>
    intro _
    simp only [row, List.not_mem_nil, iff_false]
    intro h
    have := h.length_le
    simp at this
  | cons x r ih =>
    intro hw
    have hx := hw x (by simp)
    have ihr := ih (fun y hy => hw y (by simp [hy]))
    obtain ⟨q, hq⟩ := row_head r
    constructor
    · rintro ⟨a, b, hab⟩
      simp only [row] at hab
      cases a with
      | nil =>
        have e : s ++ 32 :: b = x ++ 32 :: q := by
          rw [← hq]
          simpa using hab
        simp [split_blank s x b q hs hx e]
      | cons c a' =>
        refine List.mem_cons_of_mem _ (ihr.1 ?_)
        have e : a' ++ (32 :: (s ++ [32])) ++ b = x ++ row r := by
          have := hab
          simp only [List.cons_append, List.cons.injEq] at this
          exact this.2
        clear hab ih ihr
        induction x generalizing a' with
        | nil => exact ⟨a', b, by simpa using e⟩
        | cons d x' ihx =>
          cases a' with
          | nil =>
            simp only [List.nil_append, List.cons_append, List.cons.injEq] at e
            exact absurd e.1.symm (hx d (by simp))
          | cons c' a'' =>
            simp only [List.cons_append, List.cons.injEq] at e
            exact ihx (fun y hy => by
              rcases List.mem_cons.1 hy with rfl | hy
              · exact fun c hc => hx c (by simp [hc])
              · exact hw y (by simp [hy])) (fun c hc => hx c (by simp [hc])) a'' e.2
    · intro h
      rcases List.mem_cons.1 h with rfl | h
      · exact ⟨[], q, by simp [row, hq]⟩
      · obtain ⟨a, b, hab⟩ := ihr.2 h
        exact ⟨32 :: (x ++ a), b, by simp [row, ← hab]⟩
theorem contains_iff (s sub : List UInt8) : Lib.contains s sub = true ↔ sub <:+: s := by
  simp only [Lib.contains, decide_eq_true_eq]
  rcases Lib.index_spec s sub with ⟨h1, h2⟩ | ⟨i, h1, h2, h3, _⟩
  · rw [h1]
    constructor
    · intro h; omega
    · rintro ⟨a, b, rfl⟩
      have := h2 a.length (by simp)
      have h3 : Lib.occAt (a ++ sub ++ b) sub a.length = true := by
        rw [Lib.occAt, List.append_assoc, List.drop_left]
        exact List.isPrefixOf_iff_prefix.2 ⟨b, rfl⟩
      rw [h3] at this; cases this
  · rw [h1]
    constructor
    · intro _
      obtain ⟨b, hb⟩ := List.isPrefixOf_iff_prefix.1 h3
      exact ⟨s.take i, b, by rw [List.append_assoc, hb, List.take_append_drop]⟩
    · intro _; omega
theorem words_row : row reservedL = [32, 100, 111, 32, 101, 108, 115, 101, 32, 103, 105, 118, 101, 115, 32, 104, 105, 103, 104, 32, 105, 102, 32, 105, 109, 112, 111, 114, 116, 32, 105, 110, 32, 108, 111, 119, 32, 109, 111, 100, 117, 108, 101, 32, 111, 117, 116, 32, 112, 114, 111, 99, 32, 112, 117, 98, 32, 114, 101, 116, 117, 114, 110, 32, 119, 104, 105, 108, 101, 32] := by decide
theorem contains_words (l : List UInt8) (h : wordB l = true) : Lib.contains [32, 100, 111, 32, 101, 108, 115, 101, 32, 103, 105, 118, 101, 115, 32, 104, 105, 103, 104, 32, 105, 102, 32, 105, 109, 112, 111, 114, 116, 32, 105, 110, 32, 108, 111, 119, 32, 109, 111, 100, 117, 108, 101, 32, 111, 117, 116, 32, 112, 114, 111, 99, 32, 112, 117, 98, 32, 114, 101, 116, 117, 114, 110, 32, 119, 104, 105, 108, 101, 32] (32 :: (l ++ [32])) = reservedL.contains l := by
  rw [Bool.eq_iff_iff, contains_iff, ← words_row, infix_row l, List.contains_iff_mem]
  · intro c hc e
    subst e
    simp only [wordB, Bool.and_eq_true, List.all_eq_true] at h
    exact absurd (h.2 _ hc) (by decide)
  · have key : ∀ x ∈ reservedL, ∀ c ∈ x, c ≠ 32 := by decide
    exact key
end name
end Go.Proofs.YtpcihajmcejliabGreatDoor
namespace Go.Proofs.YtpcihajmcejliabGreatDoor
open Go.RowKit
/-- the library's limit stands in its variable, whatever it is -/
def MaxVar (w : World) : Prop := ∃ m, w.cell? ⟨0, 0, none⟩ = some (.int .i64 m)
theorem MaxVar.chg {S : Nat → Prop} {w w' : World} (h : MaxVar w) (hc : Chg S w w') (hn : ¬ S 0) : MaxVar w' := by
  obtain ⟨m, h⟩ := h
  have hl := World.block_lt_of_cell? w _ h
  exact ⟨m, by rw [hc.cell hl hn]; exact h⟩
theorem MaxVar.ext {w w' : World} (h : MaxVar w) (hc : Ext w w') : MaxVar w' := h.chg hc id
namespace name
theorem size_list (s : ByteArray) : s.data.toList.length = s.size := by rw [Array.length_toList]; rfl
set_option maxRecDepth 100000 in
set_option maxHeartbeats 1000000 in
theorem isname_any (s : ByteArray) (w : World) (hs : s.size ≤ 9223372036854775807) (hv : ErrVar w) (hm : MaxVar w) :
    Calls Tryz.prog 102 #[.string s] w fun e w' => e = .returned (.bool (nameB s.data.toList)) ∧ Ext w w' := by
  generalize hR : nameB s.data.toList = R
  have hRR := hR
  rw [nameB] at hRR
  have HR := Lib.hid hRR
  clear hR hRR
  obtain ⟨T, hT⟩ : ∃ T, scanF s.data.toList = T := ⟨_, rfl⟩
  have C1 := Lib.hid (fun w hv => lexTells.scan_all s w hs hv T hT)
  have hword : wordB s.data.toList = true → T = ([(1, 0, s.size)], 0, 0) := fun h => by rw [← hT, scan_word _ h, size_list]
  have HT := Lib.hid hT
  obtain ⟨l, c, a⟩ := T
  simp only at C1
  clear hT
  go_enter Tryz.func102, Tryz.ntmps102
  go_wp2_with fail
  refine (C1.out _ hv).mono ?_
  rintro e w1 ⟨v, rfl, ho, hE⟩
  have hfalse : wordB s.data.toList = false → R = false := fun h => by rw [← HR.out, h]; rfl
  by_cases hc : c = 0
  · subst hc
    by_cases hl : l.length = 1
    · obtain ⟨⟨kd, p, n⟩, rfl⟩ := List.length_eq_one_iff.1 hl
      obtain ⟨g, cap, rfl⟩ : ∃ g cap, v = .slice (some ⟨g, 0, none⟩) 1 cap := by
        rcases ho.2 with ⟨_, h⟩ | ⟨g, cap, cur, rfl, _⟩
        · cases h
        · exact ⟨g, cap, rfl⟩
      have a0 : w1.cell? ⟨g, 0, none⟩ = some (.int .i64 kd) := (ho.cellAt 0 (by decide)).trans rfl
      have a1 : w1.cell? ⟨g, 1, none⟩ = some (.string (s.extract p (p + n))) := (ho.cellAt 1 (by decide)).trans rfl
      have hg : g < w1.heap.size := (ho.lt g rfl).2
      have hE1 := Lib.hid (hE.alloc (.cells #[.int .i64 0, .int .i64 a] 68))
      by_cases hk : kd = 1
      · subst hk
        by_cases ht : (s.data.toList.drop p).take n = s.data.toList
        · have hw := word_of_scan _ p n a HT.out ht
          have hx : s.extract p (p + n) = s := by
            apply ByteArray.ext
            apply Array.ext'
            rw [lex.extract_list]
            exact ht
          have hcw := contains_words _ hw
          have hR2 : R = !reservedL.contains s.data.toList := by rw [← HR.out, hw]; rfl
          have h16 : s.size ≤ 16 := by
            simp only [wordB, Bool.and_eq_true, decide_eq_true_eq, size_list] at hw
            exact hw.1.2
          obtain ⟨B, hB⟩ : ∃ B, reservedL.contains s.data.toList = B := ⟨_, rfl⟩
          rw [hB] at hcw hR2
          obtain ⟨m, hm2⟩ := (hm.ext (hE.alloc (.cells #[.int .i64 0, .int .i64 a] 68)))
          have hsub : ((⟨#[32]⟩ : ByteArray) ++ s ++ ⟨#[32]⟩).data.toList = 32 :: (s.data.toList ++ [32]) := by
            simp [ByteArray.data_append]
          have cc := Tryz.strings_Contains ⟨#[32, 100, 111, 32, 101, 108, 115, 101, 32, 103, 105, 118, 101, 115, 32, 104, 105, 103, 104, 32, 105, 102, 32, 105, 109, 112, 111, 114, 116, 32, 105, 110, 32, 108, 111, 119, 32, 109, 111, 100, 117, 108, 101, 32, 111, 117, 116, 32, 112, 114, 111, 99, 32, 112, 117, 98, 32, 114, 101, 116, 117, 114, 110, 32, 119, 104, 105, 108, 101, 32]⟩ ((⟨#[32]⟩ : ByteArray) ++ s ++ ⟨#[32]⟩) m _ (by decide) hm2
          rw [hsub] at cc
          have CC := Lib.hid cc
          have HCW := Lib.hid hcw
          rw [hx] at a1
          clear cc hm2 hsub hcw hB ho hx hw ht hword hfalse hl
          go_wp2_with fail
          refine CC.out.mono ?_
          rintro e w' ⟨rfl, rfl⟩
          rw [HCW.out]
          go_wp2_with fail
          go_ret
          exact ⟨ret_bool hR2.symm, hE1.out⟩
        · have hnw : wordB s.data.toList = false := by
            cases hw : wordB s.data.toList
            · rfl
            · have := hword hw
              have e1 := congrArg (fun T : List Tok × Int × Nat => (T.1.map (·.2.1), T.1.map (·.2.2))) this
              simp at e1
              obtain ⟨rfl, rfl⟩ := e1
              exact absurd (by rw [List.drop_zero, List.take_of_length_le (by rw [size_list]; exact Nat.le_refl _)]) ht
          have hF := hfalse hnw
          obtain ⟨x, hx⟩ : ∃ x, s.extract p (p + n) = x := ⟨_, rfl⟩
          have hxs : x ≠ s := by
            intro h
            rw [h] at hx
            exact ht (by rw [← lex.extract_list, hx])
          rw [hx] at a1
          have h2 : (x.toList == s.toList) = false := by
            rw [ByteArray.toList_eq, ByteArray.toList_eq, beq_eq_false_iff_ne]
            intro h
            exact hxs (ByteArray.ext (Array.ext' h))
          have h3 : (x.data.toList == s.data.toList) = false := by
            rw [beq_eq_false_iff_ne]
            intro h
            exact hxs (ByteArray.ext (Array.ext' h))
          clear ho hx hnw hword hfalse hl ht hxs
          go_wp2_with fail
          go_ret
          exact ⟨ret_bool hF.symm, hE1.out⟩
      · have hF := hfalse (by
          cases hw : wordB s.data.toList
          · rfl
          · have := hword hw
            have e1 := congrArg (fun T : List Tok × Int × Nat => T.1.map (·.1)) this
            simp at e1
            exact absurd e1 hk)
        have hkd : (kd == 1) = false := by rw [beq_eq_false_iff_ne]; exact hk
        clear ho hword hfalse hl hk
        go_wp2_with fail
        go_ret
        exact ⟨ret_bool hF.symm, hE1.out⟩
    · have hF := hfalse (by
        cases hw : wordB s.data.toList
        · rfl
        · have := hword hw
          simp only [Prod.mk.injEq] at this
          rw [this.1] at hl
          exact absurd rfl hl)
      obtain ⟨g, n, cap, rfl, hn⟩ : ∃ g n cap, v = .slice g n cap ∧ n = l.length := by
        rcases ho.2 with ⟨rfl, h⟩ | ⟨g, cap, cur, rfl, _⟩
        · exact ⟨_, _, _, rfl, h.symm⟩
        · exact ⟨_, _, _, rfl, rfl⟩
      have hnl : ((n : Int) == 1) = false := by rw [beq_eq_false_iff_ne]; omega
      clear ho hword hfalse hl hn
      go_wp2_with fail
      go_ret
      exact ⟨ret_bool hF.symm, hE.alloc _⟩
  · have hF := hfalse (by
      cases hw : wordB s.data.toList
      · rfl
      · have := hword hw
        simp only [Prod.mk.injEq] at this
        exact absurd this.2.1 hc)
    have hcc : (c == 0) = false := by rw [beq_eq_false_iff_ne]; exact hc
    clear ho hword hfalse hc
    go_wp2_with fail
    go_ret
    exact ⟨ret_bool hF.symm, hE.alloc _⟩
end name
namespace rname
def resL : List (List UInt8) := reservedL
set_option maxRecDepth 100000 in
set_option maxHeartbeats 1000000 in
theorem reserved_any (w : World) :
    Calls Tryz.prog 226 #[] w fun e w' => ∃ g, e = .returned (.slice (some ⟨g, 0, none⟩) 14 14) ∧ (∀ (j : Nat) (hj : j < reservedL.length), w'.cell? ⟨g, j, none⟩ = some (.string ⟨reservedL[j].toArray⟩)) ∧ Ext w w' := by
  have hB : Blk (w.alloc (.cells (reservedL.map fun l => Value.string ⟨l.toArray⟩).toArray 9)) w.heap.size (reservedL.map fun l => Value.string ⟨l.toArray⟩).toArray 9 := Blk.made _ _ _
  have hE : Ext w (w.alloc (.cells (reservedL.map fun l => Value.string ⟨l.toArray⟩).toArray 9)) := (Chg.refl _ w).alloc _
  have hcell : ∀ (j : Nat) (hj : j < reservedL.length), (w.alloc (.cells (reservedL.map fun l => Value.string ⟨l.toArray⟩).toArray 9)).cell? ⟨w.heap.size, j, none⟩ = some (.string ⟨reservedL[j].toArray⟩) := by
    intro j hj
    rw [hB.cell]
    simp [hj]
  have HF := Lib.hid hE
  have HC := Lib.hid hcell
  clear hB hE hcell
  go_enter Tryz.func226, Tryz.ntmps226
  go_wp2
  go_ret
  exact ⟨_, rfl, HC.out, HF.out⟩
theorem all_take (s : ByteArray) (k : Nat) (h : k < s.size) : (s.data.toList.take (k + 1)).all (fun c => partB c.toNat) = ((s.data.toList.take k).all (fun c => partB c.toNat) && partB s[k].toNat) := by
  have e : s.data.toList[k]'(by simpa using h) = s[k] := rfl
  rw [List.take_succ_eq_append_getElem (by simpa using h), e]
  simp
set_option maxRecDepth 100000 in
set_option maxHeartbeats 2000000 in
theorem name_any (s : ByteArray) (w : World) (hs : s.size ≤ 9223372036854775807) :
    Calls Tryz.prog 159 #[.string s] w fun e w' => e = .returned (.bool (nameB s.data.toList)) ∧ Ext w w' := by
  generalize hR : nameB s.data.toList = R
  have HR := Lib.hid hR
  clear hR
  have hsz := name.size_list s
  by_cases h1 : 1 ≤ s.size ∧ s.size ≤ 16
  · obtain ⟨h1, h16⟩ := h1
    have hhd : headB s.data.toList = letterB s[0].toNat := by
      have := lex.drop_cons s 0 (by omega)
      rw [List.drop_zero] at this
      rw [this]; rfl
    cases hl : letterB s[0].toNat
    · have hF : R = false := by rw [← HR.out, nameB, wordB, hhd, hl]; rfl
      subst hF
      have cl := rlex.letter_any s[0].toNat
      rw [hl] at cl
      have CL := Lib.hid cl
      clear cl hl hhd
      go_enter Tryz.func159, Tryz.ntmps159
      go_wp2_with (go_at_call 154; refine (CL.out _).mono ?_; rintro e w' ⟨rfl, rfl⟩)
      go_ret
      exact ⟨rfl, Chg.refl _ _⟩
    · have hN : R = (s.data.toList.all (fun c => partB c.toNat) && !reservedL.contains s.data.toList) := by
        rw [← HR.out, nameB, wordB, hhd, hl]
        have h16' : s.data.toList.length ≤ 16 := by omega
        rw [decide_eq_true h16', Bool.true_and, Bool.true_and]
      have HN := Lib.hid hN
      have cl := rlex.letter_any s[0].toNat
      rw [hl] at cl
      have CL := Lib.hid cl
      clear cl hl hhd hN
      go_enter Tryz.func159, Tryz.ntmps159
      go_wp2_with (go_at_call 154; refine (CL.out _).mono ?_; rintro e w' ⟨rfl, rfl⟩)
      go_loop [3] (fun i => ∃ k : Nat, k ≤ s.size ∧ i = .int .i64 k ∧ Hid ((s.data.toList.take k).all (fun c => partB c.toNat) = true)) (fun i => s.size - (intOf i).toNat)
      case atStart => exact ⟨0, Nat.zero_le _, rfl, rfl⟩
      case round =>
        obtain ⟨k, hk, rfl, hrel⟩ := hrel
        by_cases hlt : k < s.size
        · have hki : (k : Int) < (s.size : Int) := by omega
          have ht := all_take s k hlt
          rw [hrel.out, Bool.true_and] at ht
          have cc := rlex.inside_any s[k].toNat
          cases hb : partB s[k].toNat
          · rw [hb] at cc ht
            have CC := Lib.hid cc
            have hF : R = false := by
              rw [HN.out]
              cases hq : s.data.toList.all (fun c => partB c.toNat)
              · rfl
              · have : (s.data.toList.take (k + 1)).all (fun c => partB c.toNat) = true := by
                  simp only [List.all_eq_true] at hq ⊢
                  exact fun x hx => hq x (List.mem_of_mem_take hx)
                rw [ht] at this; cases this
            have HF := Lib.hid hF
            clear cc hb ht hF
            go_wp2_with (go_at_call 153; refine (CC.out _).mono ?_; rintro e w' ⟨rfl, rfl⟩)
            go_ret
            exact ⟨ret_bool HF.out.symm, Chg.refl _ _⟩
          · rw [hb] at cc ht
            have CC := Lib.hid cc
            have HT := Lib.hid ht
            clear cc hb ht
            go_wp2_with (go_at_call 153; refine (CC.out _).mono ?_; rintro e w' ⟨rfl, rfl⟩)
            go_round
            case rel => exact ⟨k + 1, by omega, by go_num, HT.out⟩
            case measure => simp [intOf]; omega
        · obtain rfl : k = s.size := by omega
          have hN2 : R = !reservedL.contains s.data.toList := by
            rw [HN.out]
            have := hrel.out
            rw [List.take_of_length_le (by omega)] at this
            rw [this]; rfl
          have HN2 := Lib.hid hN2
          clear hN2 hrel
          go_wp2_with fail
          refine (reserved_any _).mono ?_
          rintro e w1 ⟨g, rfl, hcell, hE⟩
          have HC := Lib.hid hcell
          have HNE := Lib.hid (List.contains_iff_mem : reservedL.contains s.data.toList = true ↔ s.data.toList ∈ reservedL)
          have hlen : reservedL.length = 14 := rfl
          clear hcell
          generalize reservedL = L at *
          have HL := Lib.hid hlen
          clear hlen
          go_wp2_with fail
          go_loop [5] (fun i => ∃ j : Nat, j ≤ 14 ∧ i = .int .i64 j ∧ Hid (∀ (q : Nat) (hq : q < L.length), q < j → L[q] ≠ s.data.toList)) (fun i => 14 - (intOf i).toNat)
          case atStart => exact ⟨0, Nat.zero_le _, rfl, fun q hq h => by omega⟩
          case round =>
            obtain ⟨j, hj, rfl, hrel⟩ := hrel
            by_cases hlt : j < 14
            · have hji : (j : Int) < 14 := by omega
              have hjl : j < L.length := by rw [HL.out]; exact hlt
              have hc := HC.out j hjl
              obtain ⟨x, hx⟩ : ∃ x, L[j] = x := ⟨_, rfl⟩
              rw [hx] at hc
              have HX := Lib.hid hx
              clear hx
              by_cases he : x = s.data.toList
              · have hF : R = false := by
                  rw [HN2.out]
                  have : L.contains s.data.toList = true := HNE.out.2 (by rw [← he, ← HX.out]; exact List.getElem_mem hjl)
                  rw [this]; rfl
                have HF := Lib.hid hF
                have h2 : (x == s.toList) = true := by rw [ByteArray.toList_eq]; simpa using he
                clear he hF
                go_wp2_with fail
                go_ret
                exact ⟨ret_bool HF.out.symm, hE⟩
              · have HE := Lib.hid he
                have h2 : (x == s.toList) = false := by rw [ByteArray.toList_eq]; simpa using he
                clear he
                go_wp2_with fail
                go_round
                case rel =>
                  refine ⟨j + 1, by omega, by go_num, fun q hq h => ?_⟩
                  by_cases e : q = j
                  · subst e; rw [HX.out]; exact HE.out
                  · exact hrel.out q hq (by omega)
                case measure => simp [intOf]; omega
            · obtain rfl : j = 14 := by omega
              have hF : R = true := by
                rw [HN2.out]
                cases hq : L.contains s.data.toList
                · rfl
                · obtain ⟨q, hq2, e⟩ := List.getElem_of_mem (HNE.out.1 hq)
                  exact absurd e (hrel.out q hq2 (by have := HL.out; omega))
              have HF := Lib.hid hF
              clear hF
              go_wp2_with fail
              go_ret
              exact ⟨ret_bool HF.out.symm, hE⟩
  · have hF : R = false := by
      rw [← HR.out, nameB, wordB]
      cases hh : headB s.data.toList
      · rfl
      · have : 1 ≤ s.size := by
          rw [← hsz]
          cases hq : s.data.toList with
          | nil => rw [hq] at hh; simp [headB] at hh
          | cons c r => simp
        have h16' : ¬ s.data.toList.length ≤ 16 := by omega
        rw [decide_eq_false h16']; rfl
    subst hF
    go_enter Tryz.func159, Tryz.ntmps159
    go_wp2_with fail
    all_goals go_ret
    all_goals exact ⟨rfl, Chg.refl _ _⟩
end rname
end Go.Proofs.YtpcihajmcejliabGreatDoor
