/- The walks of syntax.IsName and of the reference's Name. -/
import Derived.Test.YtpcihajmcejliabDoorNameMath
namespace Go.Proofs.YtpcihajmcejliabDoor
open Go.RowKit
/-- the library's limit stands in its variable, whatever it is -/
def MaxVar (w : World) : Prop := ∃ m, w.cell? ⟨0, 0, none⟩ = some (.int .i64 m)
theorem MaxVar.chg {S : Nat → Prop} {w w' : World} (h : MaxVar w) (hc : Chg S w w') (hn : ¬ S 0) : MaxVar w' := by
  obtain ⟨m, h⟩ := h
  have hl := World.block_lt_of_cell? w _ h
  exact ⟨m, by rw [hc.cell hl hn]; exact h⟩
theorem MaxVar.ext {w w' : World} (h : MaxVar w) (hc : Ext w w') : MaxVar w' := h.chg hc id
namespace name
theorem size_list (s : ByteArray) : s.data.toList.length = s.size := by rw [Array.length_toList]; rfl
set_option maxRecDepth 100000 in
set_option maxHeartbeats 1000000 in
theorem isname_any (s : ByteArray) (w : World) (hs : s.size ≤ 9223372036854775807) (hv : ErrVar w) (hm : MaxVar w) :
    Calls Tryd.prog 28 #[.string s] w fun e w' => e = .returned (.bool (nameB s.data.toList)) ∧ Ext w w' := by
  generalize hR : nameB s.data.toList = R
  have hRR := hR
  rw [nameB] at hRR
  have HR := Lib.hid hRR
  clear hR hRR
  obtain ⟨T, hT⟩ : ∃ T, scanF s.data.toList = T := ⟨_, rfl⟩
  have C1 := Lib.hid (fun w hv => lexTells.scan_all s w hs hv T hT)
  have hword : wordB s.data.toList = true → T = ([(1, 0, s.size)], 0, 0) := fun h => by rw [← hT, scan_word _ h, size_list]
  have HT := Lib.hid hT
  obtain ⟨l, c, a⟩ := T
  simp only at C1
  clear hT
  go_enter Tryd.func28, Tryd.ntmps28
  go_wp2_with fail
  refine (C1.out _ hv).mono ?_
  rintro e w1 ⟨v, rfl, ho, hE⟩
  have hfalse : wordB s.data.toList = false → R = false := fun h => by rw [← HR.out, h]; rfl
  by_cases hc : c = 0
  · subst hc
    by_cases hl : l.length = 1
    · obtain ⟨⟨kd, p, n⟩, rfl⟩ := List.length_eq_one_iff.1 hl
      obtain ⟨g, cap, rfl⟩ : ∃ g cap, v = .slice (some ⟨g, 0, none⟩) 1 cap := by
        rcases ho.2 with ⟨_, h⟩ | ⟨g, cap, cur, rfl, _⟩
        · cases h
        · exact ⟨g, cap, rfl⟩
      have a0 : w1.cell? ⟨g, 0, none⟩ = some (.int .i64 kd) := (ho.cellAt 0 (by decide)).trans rfl
      have a1 : w1.cell? ⟨g, 1, none⟩ = some (.string (s.extract p (p + n))) := (ho.cellAt 1 (by decide)).trans rfl
      have hg : g < w1.heap.size := (ho.lt g rfl).2
      have hE1 := Lib.hid (hE.alloc (.cells #[.int .i64 0, .int .i64 a] 84))
      by_cases hk : kd = 1
      · subst hk
        by_cases ht : (s.data.toList.drop p).take n = s.data.toList
        · have hw := word_of_scan _ p n a HT.out ht
          have hx : s.extract p (p + n) = s := by
            apply ByteArray.ext
            apply Array.ext'
            rw [lex.extract_list]
            exact ht
          have hcw := contains_words _ hw
          have hR2 : R = !reservedL.contains s.data.toList := by rw [← HR.out, hw]; rfl
          have h16 : s.size ≤ 16 := by
            simp only [wordB, Bool.and_eq_true, decide_eq_true_eq, size_list] at hw
            exact hw.1.2
          obtain ⟨B, hB⟩ : ∃ B, reservedL.contains s.data.toList = B := ⟨_, rfl⟩
          rw [hB] at hcw hR2
          obtain ⟨m, hm2⟩ := (hm.ext (hE.alloc (.cells #[.int .i64 0, .int .i64 a] 84)))
          have hsub : ((⟨#[32]⟩ : ByteArray) ++ s ++ ⟨#[32]⟩).data.toList = 32 :: (s.data.toList ++ [32]) := by
            simp [ByteArray.data_append]
          have cc := Tryd.strings_Contains ⟨#[32, 100, 111, 32, 101, 108, 115, 101, 32, 103, 105, 118, 101, 115, 32, 104, 105, 103, 104, 32, 105, 102, 32, 105, 109, 112, 111, 114, 116, 32, 105, 110, 32, 108, 111, 119, 32, 109, 111, 100, 117, 108, 101, 32, 111, 117, 116, 32, 112, 114, 111, 99, 32, 112, 117, 98, 32, 114, 101, 116, 117, 114, 110, 32, 119, 104, 105, 108, 101, 32]⟩ ((⟨#[32]⟩ : ByteArray) ++ s ++ ⟨#[32]⟩) m _ (by decide) hm2
          rw [hsub] at cc
          have CC := Lib.hid cc
          have HCW := Lib.hid hcw
          rw [hx] at a1
          clear cc hm2 hsub hcw hB ho hx hw ht hword hfalse hl
          go_wp2_with fail
          refine CC.out.mono ?_
          rintro e w' ⟨rfl, rfl⟩
          rw [HCW.out]
          go_wp2_with fail
          go_ret
          exact ⟨ret_bool hR2.symm, hE1.out⟩
        · have hnw : wordB s.data.toList = false := by
            cases hw : wordB s.data.toList
            · rfl
            · have := hword hw
              have e1 := congrArg (fun T : List Tok × Int × Nat => (T.1.map (·.2.1), T.1.map (·.2.2))) this
              simp at e1
              obtain ⟨rfl, rfl⟩ := e1
              exact absurd (by rw [List.drop_zero, List.take_of_length_le (by rw [size_list]; exact Nat.le_refl _)]) ht
          have hF := hfalse hnw
          obtain ⟨x, hx⟩ : ∃ x, s.extract p (p + n) = x := ⟨_, rfl⟩
          have hxs : x ≠ s := by
            intro h
            rw [h] at hx
            exact ht (by rw [← lex.extract_list, hx])
          rw [hx] at a1
          have h2 : (x.toList == s.toList) = false := by
            rw [ByteArray.toList_eq, ByteArray.toList_eq, beq_eq_false_iff_ne]
            intro h
            exact hxs (ByteArray.ext (Array.ext' h))
          have h3 : (x.data.toList == s.data.toList) = false := by
            rw [beq_eq_false_iff_ne]
            intro h
            exact hxs (ByteArray.ext (Array.ext' h))
          clear ho hx hnw hword hfalse hl ht hxs
          go_wp2_with fail
          go_ret
          exact ⟨ret_bool hF.symm, hE1.out⟩
      · have hF := hfalse (by
          cases hw : wordB s.data.toList
          · rfl
          · have := hword hw
            have e1 := congrArg (fun T : List Tok × Int × Nat => T.1.map (·.1)) this
            simp at e1
            exact absurd e1 hk)
        have hkd : (kd == 1) = false := by rw [beq_eq_false_iff_ne]; exact hk
        clear ho hword hfalse hl hk
        go_wp2_with fail
        go_ret
        exact ⟨ret_bool hF.symm, hE1.out⟩
    · have hF := hfalse (by
        cases hw : wordB s.data.toList
        · rfl
        · have := hword hw
          simp only [Prod.mk.injEq] at this
          rw [this.1] at hl
          exact absurd rfl hl)
      obtain ⟨g, n, cap, rfl, hn⟩ : ∃ g n cap, v = .slice g n cap ∧ n = l.length := by
        rcases ho.2 with ⟨rfl, h⟩ | ⟨g, cap, cur, rfl, _⟩
        · exact ⟨_, _, _, rfl, h.symm⟩
        · exact ⟨_, _, _, rfl, rfl⟩
      have hnl : ((n : Int) == 1) = false := by rw [beq_eq_false_iff_ne]; omega
      clear ho hword hfalse hl hn
      go_wp2_with fail
      go_ret
      exact ⟨ret_bool hF.symm, hE.alloc _⟩
  · have hF := hfalse (by
      cases hw : wordB s.data.toList
      · rfl
      · have := hword hw
        simp only [Prod.mk.injEq] at this
        exact absurd this.2.1 hc)
    have hcc : (c == 0) = false := by rw [beq_eq_false_iff_ne]; exact hc
    clear ho hword hfalse hc
    go_wp2_with fail
    go_ret
    exact ⟨ret_bool hF.symm, hE.alloc _⟩
end name
namespace rname
def resL : List (List UInt8) := reservedL
theorem all_take (s : ByteArray) (k : Nat) (h : k < s.size) : (s.data.toList.take (k + 1)).all (fun c => partB c.toNat) = ((s.data.toList.take k).all (fun c => partB c.toNat) && partB s[k].toNat) := by
  have e : s.data.toList[k]'(by simpa using h) = s[k] := rfl
  rw [List.take_succ_eq_append_getElem (by simpa using h), e]
  simp
end rname
end Go.Proofs.YtpcihajmcejliabDoor
