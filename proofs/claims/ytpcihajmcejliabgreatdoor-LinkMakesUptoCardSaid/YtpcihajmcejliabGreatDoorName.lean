/- The walks of syntax.IsName and of the reference's Name. -/
import Derived.Test.YtpcihajmcejliabGreatDoorNameMath
namespace Go.Proofs.YtpcihajmcejliabGreatDoor
open Go.RowKit
/-- the library's limit stands in its variable, whatever it is -/
def MaxVar (w : World) : Prop := ∃ m, w.cell? ⟨0, 0, none⟩ = some (.int .i64 m)
theorem MaxVar.chg {S : Nat → Prop} {w w' : World} (h : MaxVar w) (hc : Chg S w w') (hn : ¬ S 0) : MaxVar w' := by
  obtain ⟨m, h⟩ := h
  have hl := World.block_lt_of_cell? w _ h
  exact ⟨m, by rw [hc.cell hl hn]; exact h⟩
theorem MaxVar.ext {w w' : World} (h : MaxVar w) (hc : Ext w w') : MaxVar w' := h.chg hc id
namespace name
theorem size_list (s : ByteArray) : s.data.toList.length = s.size := by rw [Array.length_toList]; rfl
set_option maxRecDepth 100000 in
set_option maxHeartbeats 1000000 in
theorem isname_any (s : ByteArray) (w : World) (hs : s.size ≤ 9223372036854775807) (hv : ErrVar w) (hm : MaxVar w) :
    Calls Tryz.prog 102 #[.string s] w fun e w' => e = .returned (.bool (nameB s.data.toList)) ∧ Ext w w' := by
  generalize hR : nameB s.data.toList = R
  have hRR := hR
  rw [nameB] at hRR
  have HR := Lib.hid hRR
  clear hR hRR
  obtain ⟨T, hT⟩ : ∃ T, scanF s.data.toList = T := ⟨_, rfl⟩
  have C1 := Lib.hid (fun w hv => lexTells.scan_all s w hs hv T hT)
  have hword : wordB s.data.toList = true → T = ([(1, 0, s.size)], 0, 0) := fun h => by rw [← hT, scan_word _ h, size_list]
  have HT := Lib.hid hT
  obtain ⟨l, c, a⟩ := T
  simp only at C1
  clear hT
  go_enter Tryz.func102, Tryz.ntmps102
  go_wp2_with fail
  refine (C1.out _ hv).mono ?_
  rintro e w1 ⟨v, rfl, ho, hE⟩
  have hfalse : wordB s.data.toList = false → R = false := fun h => by rw [← HR.out, h]; rfl
  by_cases hc : c = 0
  · subst hc
    by_cases hl : l.length = 1
    · obtain ⟨⟨kd, p, n⟩, rfl⟩ := List.length_eq_one_iff.1 hl
      obtain ⟨g, cap, rfl⟩ : ∃ g cap, v = .slice (some ⟨g, 0, none⟩) 1 cap := by
        rcases ho.2 with ⟨_, h⟩ | ⟨g, cap, cur, rfl, _⟩
        · cases h
        · exact ⟨g, cap, rfl⟩
      have a0 : w1.cell? ⟨g, 0, none⟩ = some (.int .i64 kd) := (ho.cellAt 0 (by decide)).trans rfl
      have a1 : w1.cell? ⟨g, 1, none⟩ = some (.string (s.extract p (p + n))) := (ho.cellAt 1 (by decide)).trans rfl
      have hg : g < w1.heap.size := (ho.lt g rfl).2
      have hE1 := Lib.hid (hE.alloc (.cells #[.int .i64 0, .int .i64 a] 68))
      by_cases hk : kd = 1
      · subst hk
        by_cases ht : (s.data.toList.drop p).take n = s.data.toList
        · have hw := word_of_scan _ p n a HT.out ht
          have hx : s.extract p (p + n) = s := by
            apply ByteArray.ext
            apply Array.ext'
            rw [lex.extract_list]
            exact ht
          have hcw := contains_words _ hw
          have hR2 : R = !reservedL.contains s.data.toList := by rw [← HR.out, hw]; rfl
          have h16 : s.size ≤ 16 := by
            simp only [wordB, Bool.and_eq_true, decide_eq_true_eq, size_list] at hw
            exact hw.1.2
          obtain ⟨B, hB⟩ : ∃ B, reservedL.contains s.data.toList = B := ⟨_, rfl⟩
          rw [hB] at hcw hR2
          obtain ⟨m, hm2⟩ := (hm.ext (hE.alloc (.cells #[.int .i64 0, .int .i64 a] 68)))
          have hsub : ((⟨#[32]⟩ : ByteArray) ++ s ++ ⟨#[32]⟩).data.toList = 32 :: (s.data.toList ++ [32]) := by
            simp [ByteArray.data_append]
          have cc := Tryz.strings_Contains ⟨#[32, 100, 111, 32, 101, 108, 115, 101, 32, 103, 105, 118, 101, 115, 32, 104, 105, 103, 104, 32, 105, 102, 32, 105, 109, 112, 111, 114, 116, 32, 105, 110, 32, 108, 111, 119, 32, 109, 111, 100, 117, 108, 101, 32, 111, 117, 116, 32, 112, 114, 111, 99, 32, 112, 117, 98, 32, 114, 101, 116, 117, 114, 110, 32, 119, 104, 105, 108, 101, 32]⟩ ((⟨#[32]⟩ : ByteArray) ++ s ++ ⟨#[32]⟩) m _ (by decide) hm2
          rw [hsub] at cc
          have CC := Lib.hid cc
          have HCW := Lib.hid hcw
          rw [hx] at a1
          clear cc hm2 hsub hcw hB ho hx hw ht hword hfalse hl
          go_wp2_with fail
          refine CC.out.mono ?_
          rintro e w' ⟨rfl, rfl⟩
          rw [HCW.out]
          go_wp2_with fail
          go_ret
          exact ⟨ret_bool hR2.symm, hE1.out⟩
        · have hnw : wordB s.data.toList = false := by
            cases hw : wordB s.data.toList
            · rfl
            · have := hword hw
              have e1 := congrArg (fun T : List Tok × Int × Nat => (T.1.map (·.2.1), T.1.map (·.2.2))) this
              simp at e1
              obtain ⟨rfl, rfl⟩ := e1
              exact absurd (by rw [List.drop_zero, List.take_of_length_le (by rw [size_list]; exact Nat.le_refl _)]) ht
          have hF := hfalse hnw
          obtain ⟨x, hx⟩ : ∃ x, s.extract p (p + n) = x := ⟨_, rfl⟩
          have hxs : x ≠ s := by
            intro h
            rw [h] at hx
            exact ht (by rw [← lex.extract_list, hx])
          rw [hx] at a1
          have h2 : (x.toList == s.toList) = false := by
            rw [ByteArray.toList_eq, ByteArray.toList_eq, beq_eq_false_iff_ne]
            intro h
            exact hxs (ByteArray.ext (Array.ext' h))
          have h3 : (x.data.toList == s.data.toList) = false := by
            rw [beq_eq_false_iff_ne]
            intro h
            exact hxs (ByteArray.ext (Array.ext' h))
          clear ho hx hnw hword hfalse hl ht hxs
          go_wp2_with fail
          go_ret
          exact ⟨ret_bool hF.symm, hE1.out⟩
      · have hF := hfalse (by
          cases hw : wordB s.data.toList
          · rfl
          · have := hword hw
            have e1 := congrArg (fun T : List Tok × Int × Nat => T.1.map (·.1)) this
            simp at e1
            exact absurd e1 hk)
        have hkd : (kd == 1) = false := by rw [beq_eq_false_iff_ne]; exact hk
        clear ho hword hfalse hl hk
        go_wp2_with fail
        go_ret
        exact ⟨ret_bool hF.symm, hE1.out⟩
    · have hF := hfalse (by
        cases hw : wordB s.data.toList
        · rfl
        · have := hword hw
          simp only [Prod.mk.injEq] at this
          rw [this.1] at hl
          exact absurd rfl hl)
      obtain ⟨g, n, cap, rfl, hn⟩ : ∃ g n cap, v = .slice g n cap ∧ n = l.length := by
        rcases ho.2 with ⟨rfl, h⟩ | ⟨g, cap, cur, rfl, _⟩
        · exact ⟨_, _, _, rfl, h.symm⟩
        · exact ⟨_, _, _, rfl, rfl⟩
      have hnl : ((n : Int) == 1) = false := by rw [beq_eq_false_iff_ne]; omega
      clear ho hword hfalse hl hn
      go_wp2_with fail
      go_ret
      exact ⟨ret_bool hF.symm, hE.alloc _⟩
  · have hF := hfalse (by
      cases hw : wordB s.data.toList
      · rfl
      · have := hword hw
        simp only [Prod.mk.injEq] at this
        exact absurd this.2.1 hc)
    have hcc : (c == 0) = false := by rw [beq_eq_false_iff_ne]; exact hc
    clear ho hword hfalse hc
    go_wp2_with fail
    go_ret
    exact ⟨ret_bool hF.symm, hE.alloc _⟩
end name
namespace rname
def resL : List (List UInt8) := reservedL
set_option maxRecDepth 100000 in
set_option maxHeartbeats 1000000 in
theorem reserved_any (w : World) :
    Calls Tryz.prog 226 #[] w fun e w' => ∃ g, e = .returned (.slice (some ⟨g, 0, none⟩) 14 14) ∧ (∀ (j : Nat) (hj : j < reservedL.length), w'.cell? ⟨g, j, none⟩ = some (.string ⟨reservedL[j].toArray⟩)) ∧ Ext w w' := by
  have hB : Blk (w.alloc (.cells (reservedL.map fun l => Value.string ⟨l.toArray⟩).toArray 9)) w.heap.size (reservedL.map fun l => Value.string ⟨l.toArray⟩).toArray 9 := Blk.made _ _ _
  have hE : Ext w (w.alloc (.cells (reservedL.map fun l => Value.string ⟨l.toArray⟩).toArray 9)) := (Chg.refl _ w).alloc _
  have hcell : ∀ (j : Nat) (hj : j < reservedL.length), (w.alloc (.cells (reservedL.map fun l => Value.string ⟨l.toArray⟩).toArray 9)).cell? ⟨w.heap.size, j, none⟩ = some (.string ⟨reservedL[j].toArray⟩) := by
    intro j hj
    rw [hB.cell]
    simp [hj]
  have HF := Lib.hid hE
  have HC := Lib.hid hcell
  clear hB hE hcell
  go_enter Tryz.func226, Tryz.ntmps226
  go_wp2
  go_ret
  exact ⟨_, rfl, HC.out, HF.out⟩
theorem all_take (s : ByteArray) (k : Nat) (h : k < s.size) : (s.data.toList.take (k + 1)).all (fun c => partB c.toNat) = ((s.data.toList.take k).all (fun c => partB c.toNat) && partB s[k].toNat) := by
  have e : s.data.toList[k]'(by simpa using h) = s[k] := rfl
  rw [List.take_succ_eq_append_getElem (by simpa using h), e]
  simp
set_option maxRecDepth 100000 in
set_option maxHeartbeats 2000000 in
theorem name_any (s : ByteArray) (w : World) (hs : s.size ≤ 9223372036854775807) :
    Calls Tryz.prog 159 #[.string s] w fun e w' => e = .returned (.bool (nameB s.data.toList)) ∧ Ext w w' := by
  generalize hR : nameB s.data.toList = R
  have HR := Lib.hid hR
  clear hR
  have hsz := name.size_list s
  by_cases h1 : 1 ≤ s.size ∧ s.size ≤ 16
  · obtain ⟨h1, h16⟩ := h1
    have hhd : headB s.data.toList = letterB s[0].toNat := by
      have := lex.drop_cons s 0 (by omega)
      rw [List.drop_zero] at this
      rw [this]; rfl
    cases hl : letterB s[0].toNat
    · have hF : R = false := by rw [← HR.out, nameB, wordB, hhd, hl]; rfl
      subst hF
      have cl := rlex.letter_any s[0].toNat
      rw [hl] at cl
      have CL := Lib.hid cl
      clear cl hl hhd
      go_enter Tryz.func159, Tryz.ntmps159
      go_wp2_with (go_at_call 154; refine (CL.out _).mono ?_; rintro e w' ⟨rfl, rfl⟩)
      go_ret
      exact ⟨rfl, Chg.refl _ _⟩
    · have hN : R = (s.data.toList.all (fun c => partB c.toNat) && !reservedL.contains s.data.toList) := by
        rw [← HR.out, nameB, wordB, hhd, hl]
        have h16' : s.data.toList.length ≤ 16 := by omega
        rw [decide_eq_true h16', Bool.true_and, Bool.true_and]
      have HN := Lib.hid hN
      have cl := rlex.letter_any s[0].toNat
      rw [hl] at cl
      have CL := Lib.hid cl
      clear cl hl hhd hN
      go_enter Tryz.func159, Tryz.ntmps159
      go_wp2_with (go_at_call 154; refine (CL.out _).mono ?_; rintro e w' ⟨rfl, rfl⟩)
      go_loop [3] (fun i => ∃ k : Nat, k ≤ s.size ∧ i = .int .i64 k ∧ Hid ((s.data.toList.take k).all (fun c => partB c.toNat) = true)) (fun i => s.size - (intOf i).toNat)
      case atStart => exact ⟨0, Nat.zero_le _, rfl, rfl⟩
      case round =>
        obtain ⟨k, hk, rfl, hrel⟩ := hrel
        by_cases hlt : k < s.size
        · have hki : (k : Int) < (s.size : Int) := by omega
          have ht := all_take s k hlt
          rw [hrel.out, Bool.true_and] at ht
          have cc := rlex.inside_any s[k].toNat
          cases hb : partB s[k].toNat
          · rw [hb] at cc ht
            have CC := Lib.hid cc
            have hF : R = false := by
              rw [HN.out]
              cases hq : s.data.toList.all (fun c => partB c.toNat)
              · rfl
              · have : (s.data.toList.take (k + 1)).all (fun c => partB c.toNat) = true := by
                  simp only [List.all_eq_true] at hq ⊢
                  exact fun x hx => hq x (List.mem_of_mem_take hx)
                rw [ht] at this; cases this
            have HF := Lib.hid hF
            clear cc hb ht hF
            go_wp2_with (go_at_call 153; refine (CC.out _).mono ?_; rintro e w' ⟨rfl, rfl⟩)
            go_ret
            exact ⟨ret_bool HF.out.symm, Chg.refl _ _⟩
          · rw [hb] at cc ht
            have CC := Lib.hid cc
            have HT := Lib.hid ht
            clear cc hb ht
            go_wp2_with (go_at_call 153; refine (CC.out _).mono ?_; rintro e w' ⟨rfl, rfl⟩)
            go_round
            case rel => exact ⟨k + 1, by omega, by go_num, HT.out⟩
            case measure => simp [intOf]; omega
        · obtain rfl : k = s.size := by omega
          have hN2 : R = !reservedL.contains s.data.toList := by
            rw [HN.out]
            have := hrel.out
            rw [List.take_of_length_le (by omega)] at this
            rw [this]; rfl
          have HN2 := Lib.hid hN2
          clear hN2 hrel
          go_wp2_with fail
          refine (reserved_any _).mono ?_
          rintro e w1 ⟨g, rfl, hcell, hE⟩
          have HC := Lib.hid hcell
          have HNE := Lib.hid (List.contains_iff_mem : reservedL.contains s.data.toList = true ↔ s.data.toList ∈ reservedL)
          have hlen : reservedL.length = 14 := rfl
          clear hcell
          generalize reservedL = L at *
          have HL := Lib.hid hlen
          clear hlen
          go_wp2_with fail
          go_loop [5] (fun i => ∃ j : Nat, j ≤ 14 ∧ i = .int .i64 j ∧ Hid (∀ (q : Nat) (hq : q < L.length), q < j → L[q] ≠ s.data.toList)) (fun i => 14 - (intOf i).toNat)
          case atStart => exact ⟨0, Nat.zero_le _, rfl, fun q hq h => by omega⟩
          case round =>
            obtain ⟨j, hj, rfl, hrel⟩ := hrel
            by_cases hlt : j < 14
            · have hji : (j : Int) < 14 := by omega
              have hjl : j < L.length := by rw [HL.out]; exact hlt
              have hc := HC.out j hjl
              obtain ⟨x, hx⟩ : ∃ x, L[j] = x := ⟨_, rfl⟩
              rw [hx] at hc
              have HX := Lib.hid hx
              clear hx
              by_cases he : x = s.data.toList
              · have hF : R = false := by
                  rw [HN2.out]
                  have : L.contains s.data.toList = true := HNE.out.2 (by rw [← he, ← HX.out]; exact List.getElem_mem hjl)
                  rw [this]; rfl
                have HF := Lib.hid hF
                have h2 : (x == s.toList) = true := by rw [ByteArray.toList_eq]; simpa using he
                clear he hF
                go_wp2_with fail
                go_ret
                exact ⟨ret_bool HF.out.symm, hE⟩
              · have HE := Lib.hid he
                have h2 : (x == s.toList) = false := by rw [ByteArray.toList_eq]; simpa using he
                clear he
                go_wp2_with fail
                go_round
                case rel =>
                  refine ⟨j + 1, by omega, by go_num, fun q hq h => ?_⟩
                  by_cases e : q = j
                  · subst e; rw [HX.out]; exact HE.out
                  · exact hrel.out q hq (by omega)
                case measure => simp [intOf]; omega
            · obtain rfl : j = 14 := by omega
              have hF : R = true := by
                rw [HN2.out]
                cases hq : L.contains s.data.toList
                · rfl
                · obtain ⟨q, hq2, e⟩ := List.getElem_of_mem (HNE.out.1 hq)
                  exact absurd e (hrel.out q hq2 (by have := HL.out; omega))
              have HF := Lib.hid hF
              clear hF
              go_wp2_with fail
              go_ret
              exact ⟨ret_bool HF.out.symm, hE⟩
  · have hF : R = false := by
      rw [← HR.out, nameB, wordB]
      cases hh : headB s.data.toList
      · rfl
      · have : 1 ≤ s.size := by
          rw [← hsz]
          cases hq : s.data.toList with
          | nil => rw [hq] at hh; simp [headB] at hh
          | cons c r => simp
        have h16' : ¬ s.data.toList.length ≤ 16 := by omega
        rw [decide_eq_false h16']; rfl
    subst hF
    go_enter Tryz.func159, Tryz.ntmps159
    go_wp2_with fail
    all_goals go_ret
    all_goals exact ⟨rfl, Chg.refl _ _⟩
end rname
end Go.Proofs.YtpcihajmcejliabGreatDoor
