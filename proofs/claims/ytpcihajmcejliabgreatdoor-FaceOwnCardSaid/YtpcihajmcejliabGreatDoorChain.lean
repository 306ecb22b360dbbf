/- The walks of syntax.IsName and of the reference's Name. The walk of the program's parser: name, whole, number. A region that draws its order, by what each of its operations comes to: whatever order is drawn, no order is walked. Every operation leaves what was there. A region that draws its order whose operations that turn the world wait for one another: it is as if they were done in the text's order. -/
import Derived.Deep.RegionHeld
import Derived.Test.YtpcihajmcejliabGreatDoorSynP
import Derived.Test.YtpcihajmcejliabGreatDoorLexBlanks
namespace Go.Proofs.YtpcihajmcejliabGreatDoor
open Go.RowKit
def MaxVar (w : World) : Prop := ∃ m, w.cell? ⟨0, 0, none⟩ = some (.int .i64 m)
theorem MaxVar.chg {S : Nat → Prop} {w w' : World} (h : MaxVar w) (hc : Chg S w w') (hn : ¬ S 0) : MaxVar w' := by
 obtain ⟨m, h⟩ := h; have hl := World.block_lt_of_cell? w _ h; exact ⟨m, by rw [hc.cell hl hn]; exact h⟩
theorem MaxVar.ext {w w' : World} (h : MaxVar w) (hc : Ext w w') : MaxVar w' := h.chg hc id
namespace name
theorem size_list (s : ByteArray) : s.data.toList.length = s.size := by rw [Array.length_toList]; rfl
set_option maxRecDepth 100000 in
set_option maxHeartbeats 1000000 in
theorem isname_any (s : ByteArray) (w : World) (hs : s.size ≤ 9223372036854775807) (hv : ErrVar w) (hm : MaxVar w) :
  Calls Tryz.prog 102 #[.string s] w fun e w' => e = .returned (.bool (nameB s.data.toList)) ∧ Ext w w' := by
 generalize hR : nameB s.data.toList = R; have hRR := hR; rw [nameB] at hRR; have HR := Z_ hRR; clear hR hRR; obtain ⟨T, hT⟩ : ∃ T, scanF s.data.toList = T := ⟨_, rfl⟩; have C1 := Z_ (fun w hv => lexTells.scan_all s w hs hv T hT); have hword : wordB s.data.toList = true → T = ([(1, 0, s.size)], 0, 0) := fun h => by rw [← hT, scan_word _ h, size_list]
 have HT := Z_ hT; obtain ⟨l, c, a⟩ := T; simp only at C1; clear hT; go_enter Tryz.func102, Tryz.ntmps102
 go_wp2_with fail
 refine (C1.out _ hv).mono ?_
 rintro e w1 ⟨v, rfl, ho, hE⟩; have hfalse : wordB s.data.toList = false → R = false := fun h => by rw [← HR.out, h]; rfl
 by_cases hc : c = 0
 ·subst hc
  by_cases hl : l.length = 1
  ·obtain ⟨⟨kd, p, n⟩, rfl⟩ := List.length_eq_one_iff.1 hl
   obtain ⟨g, cap, rfl⟩ : ∃ g cap, v = .slice (some ⟨g, 0, none⟩) 1 cap := by
    rcases ho.2 with ⟨_, h⟩ | ⟨g, cap, cur, rfl, _⟩
    ·cases h
    ·exact ⟨g, cap, rfl⟩
   have a0 : w1.cell? ⟨g, 0, none⟩ = some (.int .i64 kd) := (ho.cellAt 0 (by decide)).trans rfl; have a1 : w1.cell? ⟨g, 1, none⟩ = some (.string (s.extract p (p + n))) := (ho.cellAt 1 (by decide)).trans rfl; have hg : g < w1.heap.size := (ho.lt g rfl).2; have hE1 := Z_ (hE.alloc (.cells #[.int .i64 0, .int .i64 a] 68)); by_cases hk : kd = 1
   ·subst hk
    by_cases ht : (s.data.toList.drop p).take n = s.data.toList
    ·have hw := word_of_scan _ p n a HT.out ht
     have hx : s.extract p (p + n) = s := by
      apply ByteArray.ext
      apply Array.ext'
      rw [lex.extract_list]; exact ht
     have hcw := contains_words _ hw; have hR2 : R = !reservedL.contains s.data.toList := by rw [← HR.out, hw]; rfl
     have h16 : s.size ≤ 16 := by
      simp only [wordB, Bool.and_eq_true, decide_eq_true_eq, size_list] at hw; exact hw.1.2
     obtain ⟨B, hB⟩ : ∃ B, reservedL.contains s.data.toList = B := ⟨_, rfl⟩; rw [hB] at hcw hR2; obtain ⟨m, hm2⟩ := (hm.ext (hE.alloc (.cells #[.int .i64 0, .int .i64 a] 68)))
     have hsub : ((⟨#[32]⟩ : ByteArray) ++ s ++ ⟨#[32]⟩).data.toList = 32 :: (s.data.toList ++ [32]) := by
      simp [ByteArray.data_append]
     have cc := Tryz.strings_Contains ⟨#[32, 100, 111, 32, 101, 108, 115, 101, 32, 103, 105, 118, 101, 115, 32, 104, 105, 103, 104, 32, 105, 102, 32, 105, 109, 112, 111, 114, 116, 32, 105, 110, 32, 108, 111, 119, 32, 109, 111, 100, 117, 108, 101, 32, 111, 117, 116, 32, 112, 114, 111, 99, 32, 112, 117, 98, 32, 114, 101, 116, 117, 114, 110, 32, 119, 104, 105, 108, 101, 32]⟩ ((⟨#[32]⟩ : ByteArray) ++ s ++ ⟨#[32]⟩) m _ (by decide) hm2; rw [hsub] at cc; have CC := Z_ cc; have HCW := Z_ hcw; rw [hx] at a1; clear cc hm2 hsub hcw hB ho hx hw ht hword hfalse hl; go_wp2_with fail
     refine CC.out.mono ?_
     rintro e w' ⟨rfl, rfl⟩; rw [HCW.out]; go_wp2_with fail
     go_ret
     exact ⟨ret_bool hR2.symm, hE1.out⟩
    ·have hnw : wordB s.data.toList = false := by
      cases hw : wordB s.data.toList
      ·rfl
      ·have := hword hw
       have e1 := congrArg (fun T : List Tok × Int × Nat => (T.1.map (·.2.1), T.1.map (·.2.2))) this; simp at e1
       obtain ⟨rfl, rfl⟩ := e1; exact absurd (by rw [List.drop_zero, List.take_of_length_le (by rw [size_list]; exact Nat.le_refl _)]) ht
     have hF := hfalse hnw; obtain ⟨x, hx⟩ : ∃ x, s.extract p (p + n) = x := ⟨_, rfl⟩
     have hxs : x ≠ s := by
      intro h; rw [h] at hx; exact ht (by rw [← lex.extract_list, hx])
     rw [hx] at a1
     have h2 : (x.toList == s.toList) = false := by
      rw [ByteArray.toList_eq, ByteArray.toList_eq, beq_eq_false_iff_ne]; intro h; exact hxs (ByteArray.ext (Array.ext' h))
     have h3 : (x.data.toList == s.data.toList) = false := by
      rw [beq_eq_false_iff_ne]; intro h; exact hxs (ByteArray.ext (Array.ext' h))
     clear ho hx hnw hword hfalse hl ht hxs; go_wp2_with fail
     go_ret
     exact ⟨ret_bool hF.symm, hE1.out⟩
   ·have hF := hfalse (by
     cases hw : wordB s.data.toList
     ·rfl
     ·have := hword hw
      have e1 := congrArg (fun T : List Tok × Int × Nat => T.1.map (·.1)) this; simp at e1
      exact absurd e1 hk)
    have hkd : (kd == 1) = false := by rw [beq_eq_false_iff_ne]; exact hk
    clear ho hword hfalse hl hk; go_wp2_with fail
    go_ret
    exact ⟨ret_bool hF.symm, hE1.out⟩
  ·have hF := hfalse (by
    cases hw : wordB s.data.toList
    ·rfl
    ·have := hword hw
     simp only [Prod.mk.injEq] at this; rw [this.1] at hl; exact absurd rfl hl)
   obtain ⟨g, n, cap, rfl, hn⟩ : ∃ g n cap, v = .slice g n cap ∧ n = l.length := by
    rcases ho.2 with ⟨rfl, h⟩ | ⟨g, cap, cur, rfl, _⟩
    ·exact ⟨_, _, _, rfl, h.symm⟩
    ·exact ⟨_, _, _, rfl, rfl⟩
   have hnl : ((n : Int) == 1) = false := by rw [beq_eq_false_iff_ne]; omega
   clear ho hword hfalse hl hn; go_wp2_with fail
   go_ret
   exact ⟨ret_bool hF.symm, hE.alloc _⟩
 ·have hF := hfalse (by
   cases hw : wordB s.data.toList
   ·rfl
   ·have := hword hw
    simp only [Prod.mk.injEq] at this; exact absurd this.2.1 hc)
  have hcc : (c == 0) = false := by rw [beq_eq_false_iff_ne]; exact hc
  clear ho hword hfalse hc; go_wp2_with fail
  go_ret
  exact ⟨ret_bool hF.symm, hE.alloc _⟩
end name
namespace rname
set_option maxRecDepth 100000 in
set_option maxHeartbeats 1000000 in
theorem reserved_any (w : World) :
  Calls Tryz.prog 226 #[] w fun e w' => ∃ g, e = .returned (.slice (some ⟨g, 0, none⟩) 14 14) ∧ (∀ (j : Nat) (hj : j < reservedL.length), w'.cell? ⟨g, j, none⟩ = some (.string ⟨reservedL[j].toArray⟩)) ∧ Ext w w' := by
 have hB : Blk (w.alloc (.cells (reservedL.map fun l => Value.string ⟨l.toArray⟩).toArray 9)) w.heap.size (reservedL.map fun l => Value.string ⟨l.toArray⟩).toArray 9 := Blk.made _ _ _; have hE : Ext w (w.alloc (.cells (reservedL.map fun l => Value.string ⟨l.toArray⟩).toArray 9)) := (Chg.refl _ w).alloc _
 have hcell : ∀ (j : Nat) (hj : j < reservedL.length), (w.alloc (.cells (reservedL.map fun l => Value.string ⟨l.toArray⟩).toArray 9)).cell? ⟨w.heap.size, j, none⟩ = some (.string ⟨reservedL[j].toArray⟩) := by
  intro j hj; rw [hB.cell]; simp [hj]
 have HF := Z_ hE; have HC := Z_ hcell; clear hB hE hcell; go_enter Tryz.func226, Tryz.ntmps226
 go_wp2
 go_ret
 exact ⟨_, rfl, HC.out, HF.out⟩
theorem all_take (s : ByteArray) (k : Nat) (h : k < s.size) : (s.data.toList.take (k + 1)).all (fun c => partB c.toNat) = ((s.data.toList.take k).all (fun c => partB c.toNat) && partB s[k].toNat) := by
 have e : s.data.toList[k]'(by simpa using h) = s[k] := rfl; rw [List.take_succ_eq_append_getElem (by simpa using h), e]; simp
set_option maxRecDepth 100000 in
set_option maxHeartbeats 2000000 in
theorem name_any (s : ByteArray) (w : World) (hs : s.size ≤ 9223372036854775807) :
  Calls Tryz.prog 159 #[.string s] w fun e w' => e = .returned (.bool (nameB s.data.toList)) ∧ Ext w w' := by
 generalize hR : nameB s.data.toList = R; have HR := Z_ hR; clear hR; have hsz := name.size_list s; by_cases h1 : 1 ≤ s.size ∧ s.size ≤ 16
 ·obtain ⟨h1, h16⟩ := h1
  have hhd : headB s.data.toList = letterB s[0].toNat := by
   have := lex.drop_cons s 0 (by omega); rw [List.drop_zero] at this; rw [this]; rfl
  cases hl : letterB s[0].toNat
  ·have hF : R = false := by rw [← HR.out, nameB, wordB, hhd, hl]; rfl
   subst hF; have cl := rlex.letter_any s[0].toNat; rw [hl] at cl; have CL := Z_ cl; clear cl hl hhd; go_enter Tryz.func159, Tryz.ntmps159
   go_wp2_with (go_at_call 154; refine (CL.out _).mono ?_; rintro e w' ⟨rfl, rfl⟩)
   go_ret
   exact ⟨rfl, Chg.refl _ _⟩
  ·have hN : R = (s.data.toList.all (fun c => partB c.toNat) && !reservedL.contains s.data.toList) := by
    rw [← HR.out, nameB, wordB, hhd, hl]; have h16' : s.data.toList.length ≤ 16 := by omega
    rw [decide_eq_true h16', Bool.true_and, Bool.true_and]
   have HN := Z_ hN; have cl := rlex.letter_any s[0].toNat; rw [hl] at cl; have CL := Z_ cl; clear cl hl hhd hN; go_enter Tryz.func159, Tryz.ntmps159
   go_wp2_with (go_at_call 154; refine (CL.out _).mono ?_; rintro e w' ⟨rfl, rfl⟩)
   go_loop [3] (fun i => ∃ k : Nat, k ≤ s.size ∧ i = .int .i64 k ∧ Hid ((s.data.toList.take k).all (fun c => partB c.toNat) = true)) (fun i => s.size - (intOf i).toNat)
   case atStart => exact ⟨0, Nat.zero_le _, rfl, rfl⟩
   case round =>
    obtain ⟨k, hk, rfl, hrel⟩ := hrel; by_cases hlt : k < s.size
    ·have hki : (k : Int) < (s.size : Int) := by omega
     have ht := all_take s k hlt; rw [hrel.out, Bool.true_and] at ht; have cc := rlex.inside_any s[k].toNat; cases hb : partB s[k].toNat
     ·rw [hb] at cc ht
      have CC := Z_ cc
      have hF : R = false := by
       rw [HN.out]; cases hq : s.data.toList.all (fun c => partB c.toNat)
       ·rfl
       ·have : (s.data.toList.take (k + 1)).all (fun c => partB c.toNat) = true := by
         simp only [List.all_eq_true] at hq ⊢; exact fun x hx => hq x (List.mem_of_mem_take hx)
        rw [ht] at this; cases this
      have HF := Z_ hF; clear cc hb ht hF; go_wp2_with (go_at_call 153; refine (CC.out _).mono ?_; rintro e w' ⟨rfl, rfl⟩)
      go_ret
      exact ⟨ret_bool HF.out.symm, Chg.refl _ _⟩
     ·rw [hb] at cc ht
      have CC := Z_ cc; have HT := Z_ ht; clear cc hb ht; go_wp2_with (go_at_call 153; refine (CC.out _).mono ?_; rintro e w' ⟨rfl, rfl⟩)
      go_round
      case rel => exact ⟨k + 1, by omega, by go_num, HT.out⟩
      case measure => simp [intOf]; omega
    ·obtain rfl : k = s.size := by omega
     have hN2 : R = !reservedL.contains s.data.toList := by
      rw [HN.out]; have := hrel.out; rw [List.take_of_length_le (by omega)] at this; rw [this]; rfl
     have HN2 := Z_ hN2; clear hN2 hrel; go_wp2_with fail
     refine (reserved_any _).mono ?_
     rintro e w1 ⟨g, rfl, hcell, hE⟩; have HC := Z_ hcell; have HNE := Z_ (List.contains_iff_mem : reservedL.contains s.data.toList = true ↔ s.data.toList ∈ reservedL); have hlen : reservedL.length = 14 := rfl; clear hcell; generalize reservedL = L at *; have HL := Z_ hlen; clear hlen; go_wp2_with fail
     go_loop [5] (fun i => ∃ j : Nat, j ≤ 14 ∧ i = .int .i64 j ∧ Hid (∀ (q : Nat) (hq : q < L.length), q < j → L[q] ≠ s.data.toList)) (fun i => 14 - (intOf i).toNat)
     case atStart => exact ⟨0, Nat.zero_le _, rfl, fun q hq h => by omega⟩
     case round =>
      obtain ⟨j, hj, rfl, hrel⟩ := hrel; by_cases hlt : j < 14
      ·have hji : (j : Int) < 14 := by omega
       have hjl : j < L.length := by rw [HL.out]; exact hlt
       have hc := HC.out j hjl; obtain ⟨x, hx⟩ : ∃ x, L[j] = x := ⟨_, rfl⟩; rw [hx] at hc; have HX := Z_ hx; clear hx; by_cases he : x = s.data.toList
       ·have hF : R = false := by
         rw [HN2.out]; have : L.contains s.data.toList = true := HNE.out.2 (by rw [← he, ← HX.out]; exact List.getElem_mem hjl); rw [this]; rfl
        have HF := Z_ hF; have h2 : (x == s.toList) = true := by rw [ByteArray.toList_eq]; simpa using he
        clear he hF; go_wp2_with fail
        go_ret
        exact ⟨ret_bool HF.out.symm, hE⟩
       ·have HE := Z_ he
        have h2 : (x == s.toList) = false := by rw [ByteArray.toList_eq]; simpa using he
        clear he; go_wp2_with fail
        go_round
        case rel =>
         refine ⟨j + 1, by omega, by go_num, fun q hq h => ?_⟩
         by_cases e : q = j
         ·subst e; rw [HX.out]; exact HE.out
         ·exact hrel.out q hq (by omega)
        case measure => simp [intOf]; omega
      ·obtain rfl : j = 14 := by omega
       have hF : R = true := by
        rw [HN2.out]; cases hq : L.contains s.data.toList
        ·rfl
        ·obtain ⟨q, hq2, e⟩ := List.getElem_of_mem (HNE.out.1 hq)
         exact absurd e (hrel.out q hq2 (by have := HL.out; omega))
       have HF := Z_ hF; clear hF; go_wp2_with fail
       go_ret
       exact ⟨ret_bool HF.out.symm, hE⟩
 ·have hF : R = false := by
   rw [← HR.out, nameB, wordB]; cases hh : headB s.data.toList
   ·rfl
   ·have : 1 ≤ s.size := by
     rw [← hsz]; cases hq : s.data.toList with
     | nil => rw [hq] at hh; simp [headB] at hh
     | cons c r => simp
    have h16' : ¬ s.data.toList.length ≤ 16 := by omega
    rw [decide_eq_false h16']; rfl
  subst hF; go_enter Tryz.func159, Tryz.ntmps159
  go_wp2_with fail
  all_goals go_ret
  all_goals exact ⟨rfl, Chg.refl _ _⟩
end rname
end Go.Proofs.YtpcihajmcejliabGreatDoor
namespace Go.Proofs.YtpcihajmcejliabGreatDoor
open Go.RowKit
namespace synw
set_option maxRecDepth 100000 in
set_option maxHeartbeats 1000000 in
theorem name_any {W w : World} {S E : Nat} {l : List Tk} (h : PrAt W w S E l) (hm : MaxVar W) :
  Calls Tryz.prog 150 #[.pointer (some ⟨S, 0, none⟩)] w (Pst VStr W w S E (pName l)) := by
 have HC := Z_ (peek_any h); have HFA := Z_ (fun (u : World) (hE : Ext w u) => fail_any (h.extend hE)); have HP := Z_ (fun (u : World) (hE : Ext w u) => h.extend hE); have HM := Z_ (fun (u : World) (hE : Ext w u) => hm.ext (h.ext.ext hE)); cases l with
 | nil =>
  have HT := Z_ (show pName [] = .bad [] from rfl); generalize pName [] = T at *; simp only [hdTk] at HC; clear h HP HM; go_enter Tryz.func150, Tryz.ntmps150
  go_wp2_with fail
  refine HC.out.mono ?_
  rintro e w1 ⟨rfl, hE⟩; unfold tkV; have hE2 := hE.alloc (.cells #[.int .i64 0, .string ⟨#[]⟩, .int .i64 E] 163); have HE2 := Z_ hE2; have HF := Z_ (HFA.out _ hE2); go_wp2_with fail
  refine HF.out.mono ?_
  rintro e w2 ⟨rfl, hE3⟩; go_wp2_with fail
  exact ⟨rfl, Pst.fails (ext_at (HE2.out.ext hE3) S) HT.out⟩
 | cons t r =>
  have ho := pr_ok h; obtain ⟨tk, tt, ta⟩ := t; simp only [hdTk] at HC; have HT := Z_ (show pName (⟨tk, tt, ta⟩ :: r) = if tk = 1 ∧ reservedL.contains tt.data.toList = false then .got tt r else .bad (⟨tk, tt, ta⟩ :: r) from rfl); generalize pName (⟨tk, tt, ta⟩ :: r) = T at *; by_cases hk : tk = 1
  ·subst hk
   have hw := ho.word rfl; have hs := ho.size; simp only at hw hs; have hcw := name.contains_words _ hw; obtain ⟨R, hR⟩ : ∃ R, reservedL.contains tt.data.toList = R := ⟨_, rfl⟩; rw [hR] at hcw; have HCW := Z_ hcw; have HT2 := Z_ (show T = if R = false then .got tt r else .bad (⟨1, tt, ta⟩ :: r) by have := HT.out; rw [hR] at this; simpa using this); have HSZ := Z_ hs; clear h hw hcw hR HT ho; go_enter Tryz.func150, Tryz.ntmps150
   go_wp2_with fail
   refine HC.out.mono ?_
   rintro e w1 ⟨rfl, hE⟩; unfold tkV; have hA := Blk.made w1 #[.int .i64 1, .string tt, .int .i64 ta] 163; have hE2 := hE.alloc (.cells #[.int .i64 1, .string tt, .int .i64 ta] 163); obtain ⟨m, hm2⟩ := HM.out _ hE2; have hsub : ((⟨#[32]⟩ : ByteArray) ++ tt ++ ⟨#[32]⟩).data.toList = 32 :: (tt.data.toList ++ [32]) := by simp [ByteArray.data_append]
   have cc := Tryz.strings_Contains ⟨#[32, 100, 111, 32, 101, 108, 115, 101, 32, 103, 105, 118, 101, 115, 32, 104, 105, 103, 104, 32, 105, 102, 32, 105, 109, 112, 111, 114, 116, 32, 105, 110, 32, 108, 111, 119, 32, 109, 111, 100, 117, 108, 101, 32, 111, 117, 116, 32, 112, 114, 111, 99, 32, 112, 117, 98, 32, 114, 101, 116, 117, 114, 110, 32, 119, 104, 105, 108, 101, 32]⟩ ((⟨#[32]⟩ : ByteArray) ++ tt ++ ⟨#[32]⟩) m _ (by decide) hm2; rw [hsub] at cc; have CC := Z_ cc; have HE2 := Z_ hE2; have HA := Z_ hA; clear cc hm2 hsub hE hE2 hA; go_wp2_with fail
   refine CC.out.mono ?_
   rintro e w' ⟨rfl, rfl⟩; rw [HCW.out]; cases R with
   | true =>
    have HF := Z_ (HFA.out _ HE2.out); go_wp2_with fail
    refine HF.out.mono ?_
    rintro e w2 ⟨rfl, hE3⟩; go_wp2_with fail
    exact ⟨rfl, Pst.fails (ext_at (HE2.out.ext hE3) S) (by simpa using HT2.out)⟩
   | false =>
    obtain ⟨k, hk, hk2, hP2⟩ := pr_step (HP.out _ HE2.out); obtain ⟨a', n', c', k', hB, -, -⟩ := pr_blk (HP.out _ HE2.out); have hSne : w1.heap.size ≠ S := by have := (HP.out _ HE2.out).lt; have h7 := HA.out.lt; intro e; subst e; have := HA.out.cell 1; rw [hk] at this; cases this
    have hf := hB.frozen 1; have hSl := hB.lt; have hA2 := HA.out.setOther (p := ⟨S, 1, none⟩) hSne (.int .i64 ((k : Int) + 1)); have hc1 := hA2.cell 1; have hkw : IntKind.i64.wrap ((k : Int) + 1) = (k : Int) + 1 := by unfold IntKind.wrap; simp only [IntKind.bits, IntKind.signed]; simp; omega
    have HP2 := Z_ hP2; clear hP2 hB hA2; go_wp2_with fail
    go_ret
    exact Pst.reads (chg_set (ext_at HE2.out S) 1 _) (by simpa using HT2.out) ⟨rfl, by have := HSZ.out; omega⟩ HP2.out
  ·have hk2 : (tk != 1) = true := by simpa using hk
   have HT2 := Z_ (show T = .bad (⟨tk, tt, ta⟩ :: r) by have := HT.out; rw [if_neg (fun h => hk h.1)] at this; exact this); clear h HP HM HT ho; go_enter Tryz.func150, Tryz.ntmps150
   go_wp2_with fail
   refine HC.out.mono ?_
   rintro e w1 ⟨rfl, hE⟩; unfold tkV; have hE2 := hE.alloc (.cells #[.int .i64 tk, .string tt, .int .i64 ta] 163); have HE2 := Z_ hE2; have HF := Z_ (HFA.out _ hE2); go_wp2_with fail
   refine HF.out.mono ?_
   rintro e w2 ⟨rfl, hE3⟩; go_wp2_with fail
   exact ⟨rfl, Pst.fails (ext_at (HE2.out.ext hE3) S) HT2.out⟩
theorem pName_ne (l : List Tk) : pName l ≠ .out := by
 cases l with
 | nil => intro h; cases h
 | cons t r =>
  simp only [pName, ne_eq]; split <;> simp
theorem pNeed_ne (s : ByteArray) (l : List Tk) : pNeed s l ≠ .out := by unfold pNeed; split <;> intro h <;> cases h
theorem pLabel_ne (l : List Tk) : pLabel l ≠ .out := by
 unfold pLabel; split
 ·intro h; cases h
 ·unfold pNeed; split <;> intro h <;> cases h
theorem pWhole_ne (l : List Tk) : pWhole l ≠ .out := by
 unfold pWhole; intro h; cases hn : pName l with
 | out => exact pName_ne _ hn
 | bad l2 => rw [hn] at h; cases h
 | got s l2 =>
  rw [hn] at h; simp only [Out.bind] at h; split at h
  ·cases hn2 : pName l2.tail with
   | out => exact pName_ne _ hn2
   | bad l3 => rw [hn2] at h; cases h
   | got s3 l3 => rw [hn2] at h; cases h
  ·cases h
theorem pName_size {l r : List Tk} {s : ByteArray} {W w : World} {S E : Nat} (hP : PrAt W w S E l) (h : pName l = .got s r) : s.size ≤ 3000 := by
 cases l with
 | nil => cases h
 | cons t q =>
  simp only [pName] at h; split at h
  ·injection h with h1 h2
   subst h1; exact (pr_ok hP).size
  ·cases h
set_option maxRecDepth 100000 in
set_option maxHeartbeats 1000000 in
theorem whole_any {W w : World} {S E : Nat} {l : List Tk} (h : PrAt W w S E l) (hm : MaxVar W) :
  Calls Tryz.prog 325 #[.pointer (some ⟨S, 0, none⟩)] w (Pst VStr W w S E (pWhole l)) := by
 have HC := Z_ (name_any h hm); have HM := Z_ hm; have HSZ := Z_ (fun s r => pName_size (s := s) (r := r) h); obtain ⟨T, hT⟩ : ∃ T, pWhole l = T := ⟨_, rfl⟩; rw [hT]; unfold pWhole at hT; have HT := Z_ hT; clear h hm hT; go_enter Tryz.func325, Tryz.ntmps325
 go_wp2_with fail
 refine HC.out.mono ?_
 rintro e w1 hr; obtain ⟨hC1, ⟨l1, hp, rfl⟩ | ⟨s, l1, v, hp, rfl, ⟨rfl, hs⟩, hP1⟩⟩ := hr.cases (pName_ne l)
 ·have HF := Z_ (Out.bind_bad HT.out hp)
  have HC1 := Z_ hC1; clear hr hp hC1; go_wp2_with fail
  exact ⟨rfl, Pst.fails HC1.out HF.out⟩
 ·have HT1 := Z_ (Out.bind_got HT.out hp)
  have hsz := HSZ.out _ _ hp; have HC1 := Z_ hC1; have HH := Z_ (have_any hP1 sDot); clear hr hp hC1 HC HT HSZ hP1; generalize isB l1 [sDot] = R at *; go_wp2_with fail
  refine HH.out.mono ?_
  rintro e w2 ⟨rfl, hC2, hP2⟩; have HC2 := Z_ (HC1.out.then hC2); cases R with
  | false =>
   have HP2 := Z_ (show PrAt W w2 S E l1 by simpa using hP2); have HF := Z_ (show T = .got s l1 by have := HT1.out; simpa using this.symm); clear hP2 hC2; go_wp2_with fail
   go_ret
   exact Pst.reads HC2.out HF.out ⟨rfl, by omega⟩ HP2.out
  | true =>
   have hP3 : PrAt W w2 S E l1.tail := by simpa using hP2
   have HT2 := Z_ (show (pName l1.tail).bind (fun t l => .got (s ++ (sDot ++ t)) l) = T by have := HT1.out; simpa using this); have HN := Z_ (name_any hP3 HM.out); have HSZ := Z_ (fun s r => pName_size (s := s) (r := r) hP3); clear hP2 hP3 hC2; go_wp2_with fail
   refine HN.out.mono ?_
   rintro e w3 hr; obtain ⟨hC3, ⟨l3, hp, rfl⟩ | ⟨s3, l3, v, hp, rfl, ⟨rfl, hs3⟩, hP3⟩⟩ := hr.cases (pName_ne l1.tail)
   ·have HF := Z_ (Out.bind_bad HT2.out hp)
    have HC3 := Z_ (HC2.out.then hC3); clear hr hp hC3; go_wp2_with fail
    exact ⟨rfl, Pst.fails HC3.out HF.out⟩
   ·have HF := Z_ (Out.bind_got HT2.out hp)
    have hsz3 := HSZ.out _ _ hp; have HC3 := Z_ (HC2.out.then hC3); have HP3 := Z_ hP3; have hz1 : ((⟨#[46]⟩ : ByteArray) ++ s3).size = 1 + s3.size := by rw [ByteArray.size_append]; rfl
    have hz2 : (s ++ ((⟨#[46]⟩ : ByteArray) ++ s3)).size = s.size + (1 + s3.size) := by rw [ByteArray.size_append, hz1]
    have HZ := Z_ hz2; clear hr hp hC3 hP3 hz2; go_wp2_with fail
    go_ret
    exact Pst.reads HC3.out HF.out.symm ⟨rfl, by show (s ++ ((⟨#[46]⟩ : ByteArray) ++ s3)).size ≤ 7000; rw [HZ.out]; omega⟩ HP3.out
set_option maxRecDepth 100000 in
set_option maxHeartbeats 1000000 in
theorem number_any {W w : World} {S E : Nat} {l : List Tk} (h : PrAt W w S E l) :
  Calls Tryz.prog 225 #[.pointer (some ⟨S, 0, none⟩)] w (Pst (fun x v w' => NdAt (hide (below w.heap.size) w') x v) W w S E (pNumber l)) := by
 have hX0 := (Chg.refl (fun _ => False) w).alloc (.cells #[.int .i64 0, .string ⟨#[]⟩, .int .i64 0, .slice none 0 0] 66); have HA := Z_ (Blk.made w #[.int .i64 0, .string ⟨#[]⟩, .int .i64 0, .slice none 0 0] 66); have HC := Z_ (peek_any (h.extend hX0)); have HFA := Z_ (fun (u : World) (hE : Ext w u) => fail_any (h.extend hE)); have HP := Z_ (fun (u : World) (hE : Ext w u) => h.extend hE); have HX0 := Z_ hX0; have hSw := h.lt; have hWw := h.ext.size; cases l with
 | nil =>
  have HT := Z_ (show pNumber [] = .bad [] from rfl); generalize pNumber [] = T at *; simp only [hdTk] at HC; clear h HP hX0; go_enter Tryz.func225, Tryz.ntmps225
  go_wp2_with fail
  refine HC.out.mono ?_
  rintro e w1 ⟨rfl, hE⟩; unfold tkV; have hE2 := (HX0.out.ext hE).alloc (.cells #[.int .i64 0, .string ⟨#[]⟩, .int .i64 E] 163); have HE2 := Z_ hE2; have HF := Z_ (HFA.out _ hE2); clear hE hE2; go_wp2_with fail
  refine HF.out.mono ?_
  rintro e w2 ⟨rfl, hE3⟩; go_wp2_with fail
  exact ⟨rfl, Pst.fails (ext_at (HE2.out.ext hE3) S) HT.out⟩
 | cons t r =>
  have ho := pr_ok h; obtain ⟨tk, tt, ta⟩ := t; simp only [hdTk] at HC; have HT := Z_ (show pNumber (⟨tk, tt, ta⟩ :: r) = if tk = 2 then .got (.mk 15 noText (valOf tt) []) r else .bad (⟨tk, tt, ta⟩ :: r) from rfl); generalize pNumber (⟨tk, tt, ta⟩ :: r) = T at *; by_cases hk : tk = 2
  ·subst hk
   obtain ⟨hd1, hd2, hd3⟩ := ho.num rfl; have hs := ho.size; simp only at hd1 hd2 hd3 hs; have hpi := int_digits _ hd1 hd2; rw [if_pos hd3] at hpi; have HPI := Z_ hpi; have HT2 := Z_ (show T = .got (.mk 15 noText (valOf tt) []) r by have := HT.out; simpa using this); clear h hd1 hd2 hd3 hpi HT ho hX0; go_enter Tryz.func225, Tryz.ntmps225
   go_wp2_with fail
   refine HC.out.mono ?_
   rintro e w1 ⟨rfl, hE⟩; unfold tkV; have hA := Blk.made w1 #[.int .i64 2, .string tt, .int .i64 ta] 163; have hE2 := (HX0.out.ext hE).alloc (.cells #[.int .i64 2, .string tt, .int .i64 ta] 163); have hR2 := (HA.out.ext hE).alloc (.cells #[.int .i64 2, .string tt, .int .i64 ta] 163); obtain ⟨k, hk, hk2, hP2⟩ := pr_step (HP.out _ hE2); obtain ⟨a', n', c', k', hB, -, -⟩ := pr_blk (HP.out _ hE2); have hw1 := (HX0.out.ext hE).size; have hSne : w1.heap.size ≠ S := by omega
   have hf := hB.frozen 1; have hSl := hB.lt; have hA2 := hA.setOther (p := ⟨S, 1, none⟩) hSne (.int .i64 ((k : Int) + 1)); have hR3 := hR2.setOther (p := ⟨S, 1, none⟩) (by show w.heap.size ≠ S; omega) (.int .i64 ((k : Int) + 1)); have hc1 := hA2.cell 1; have hkw : IntKind.i64.wrap ((k : Int) + 1) = (k : Int) + 1 := by unfold IntKind.wrap; simp only [IntKind.bits, IntKind.signed]; simp; omega
   have HP2 := Z_ hP2; have HE3 := Z_ (chg_set (ext_at hE2 S) 1 (.int .i64 ((k : Int) + 1))); have HR3 := Z_ hR3; clear hP2 hB hA2 hA hE hE2 hR2 hR3; go_wp2_with fail
   generalize (w1.alloc (.cells #[.int .i64 2, .string tt, .int .i64 ta] 163)).setCell ⟨S, 1, none⟩ (.int .i64 ((k : Int) + 1)) = w9 at *; refine (Tryz.strconv_ParseInt_10_at64_ok tt (by omega) _ HPI.out _).mono ?_
   rintro e w2 ⟨rfl, hw2⟩
   have hE4 : Ext w9 w2 := by
    rcases hw2 with rfl | ⟨t, rfl⟩
    ·exact Chg.refl _ _
    ·exact lex.bytes_ext _ _ _
   have HE4 := Z_ hE4; clear hw2 hE4; have hR4 := HR3.out.ext HE4.out; have hP4 := HP2.out.extend HE4.out; have hC4 := HE3.out.ext HE4.out; clear HE4 HR3 HP2 HE3 hk hf hc1 hSl; have HR4 := Z_ hR4; have HP4 := Z_ hP4; have HC4 := Z_ hC4; clear hR4 hP4 hC4; have HV := Z_ (show valOf tt = ((decFrom 0 tt.data.toList : Nat) : Int) from rfl); obtain ⟨V, hV⟩ : ∃ V : Int, ((decFrom 0 tt.data.toList : Nat) : Int) = V := ⟨_, rfl⟩; rw [hV] at HV ⊢; clear hV; go_wp2_with fail
   refine (node_any _ _ _ _ _ _ _).mono ?_
   rintro e w3 ⟨rfl, hE5⟩; have hR5 := HR4.out.ext hE5; have HP5 := Z_ (HP4.out.extend hE5); have HC5 := Z_ (HC4.out.ext hE5); have HR5 := Z_ hR5; have hc5 := hR5.cell; have hf5 := hR5.frozen; have hl5 := hR5.lt; clear hE5 hR5; go_wp2_with fail
   refine ends_at rfl rfl rfl ((((HR5.out.set 0 _).set 1 _).set 2 _).set 3 _) Tryz.underlying66 rfl (by kernel_rfl) ?_
   exact Pst.reads ((((HC5.out.setNew (p := ⟨w.heap.size, 0, none⟩) (by simp) _).setNew (p := ⟨w.heap.size, 1, none⟩) (by simp) _).setNew (p := ⟨w.heap.size, 2, none⟩) (by simp) _).setNew (p := ⟨w.heap.size, 3, none⟩) (by simp) _)
    (x := .mk 15 noText V []) (l := r) (by rw [← HV.out]; exact HT2.out) (ndAt_leaf _ _ _ _ (by decide)) ((((HP5.out.setFar (p := ⟨w.heap.size, 0, none⟩) (by simp; omega) (by simp; omega) _).setFar (p := ⟨w.heap.size, 1, none⟩) (by simp; omega) (by simp; omega) _).setFar (p := ⟨w.heap.size, 2, none⟩) (by simp; omega) (by simp; omega) _).setFar (p := ⟨w.heap.size, 3, none⟩) (by simp; omega) (by simp; omega) _)
  ·have hk2 : (tk != 2) = true := by simpa using hk
   have HT2 := Z_ (show T = .bad (⟨tk, tt, ta⟩ :: r) by have := HT.out; rw [if_neg hk] at this; exact this); clear h HP HT ho hX0; go_enter Tryz.func225, Tryz.ntmps225
   go_wp2_with fail
   refine HC.out.mono ?_
   rintro e w1 ⟨rfl, hE⟩; unfold tkV; have hE2 := (HX0.out.ext hE).alloc (.cells #[.int .i64 tk, .string tt, .int .i64 ta] 163); have HE2 := Z_ hE2; have HF := Z_ (HFA.out _ hE2); clear hE hE2; go_wp2_with fail
   refine HF.out.mono ?_
   rintro e w2 ⟨rfl, hE3⟩; go_wp2_with fail
   exact ⟨rfl, Pst.fails (ext_at (HE2.out.ext hE3) S) HT2.out⟩
end synw
end Go.Proofs.YtpcihajmcejliabGreatDoor
namespace Go.Proofs.YtpcihajmcejliabGreatDoor
open Go.RowKit
inductive Comes where
 | val (v : Value)
 | row (cs : List Value) (n : Nat) (T : TypeId)
def Comes.holds : Comes → Value → World → Prop
 | .val v, u, _ => u = v
 | .row cs n T, u, w => ∃ g, u = .slice (some ⟨g, 0, none⟩) n n ∧ Blk w g cs.toArray T
theorem Comes.mono {c : Comes} {u : Value} {w w' : World} (h : c.holds u w) (hE : Ext w w') : c.holds u w' := by
 cases c with
 | val v => exact h
 | row cs n T => obtain ⟨g, e, hb⟩ := h; exact ⟨g, e, hb.ext hE⟩
namespace specs
def dstAt (ops : Array Oper) (i : Nat) : Nat := match ops[i]? with | some o => o.dst.getD 0 | none => 0
def waitsB (o : Oper) (j : Nat) : Bool := o.after.any fun e => Region.binds .any e && e.on == j
def upTo (x : Nat → Value) (t : Nat) (v : Value) : Nat → Value := fun k => if k = t then v else x k
def okB (ops : Array Oper) : Bool :=
 (List.range ops.size).all fun i => (match ops[i]? with | some o => o.dst.isSome && o.after.all (fun e => decide (e.on < i)) | none => false) && (List.range i).all fun j => dstAt ops i != dstAt ops j
def unl (l : Array Bool) : Nat → Nat
 | 0 => 0
 | n + 1 => unl l n + if l.getD n false = true then 0 else 1
theorem unl_set {l : Array Bool} {i : Nat} (hi : i < l.size) (h : l.getD i false = false) : ∀ n, i < n → unl (l.setIfInBounds i true) n + 1 = unl l n := by
 intro n; induction n with
 | zero => intro h; omega
 | succ n ih =>
  intro hn
  have hlo : ∀ m, m ≤ i → unl (l.setIfInBounds i true) m = unl l m := by
   intro m; induction m with
   | zero => intro _; rfl
   | succ m ihm =>
    intro hm; rw [unl, unl, ihm (by omega), getD_set_ne false (by omega)]
  rw [unl, unl]; by_cases e : i = n
  ·subst e
   rw [hlo i (Nat.le_refl _), if_pos (by simp [hi]), h]; simp
  ·rw [getD_set_ne false e]
   have := ih (by omega); omega
theorem unl_zero {l : Array Bool} : ∀ n, unl l n = 0 → ∀ i, i < n → l.getD i false = true := by
 intro n; induction n with
 | zero => intro _ i hi; omega
 | succ n ih =>
  intro h i hi; rw [unl] at h; by_cases e : i = n
  ·subst e
   by_cases hb : l.getD i false = true
   ·exact hb
   ·rw [if_neg hb] at h; omega
  ·exact ih (by omega) i (by omega)
theorem unl_all (n m : Nat) (h : n ≤ m) : unl (Array.replicate m false) n = n := by
 induction n with
 | zero => rfl
 | succ n ih => rw [unl, ih (by omega), getD_replicate_false, if_neg (by simp)]
theorem ok_at {ops : Array Oper} (h : okB ops = true) {i : Nat} {o : Oper} (ho : ops[i]? = some o) : o.dst = some (dstAt ops i) ∧ (∀ e ∈ o.after, e.on < i) ∧ ∀ j, j < i → dstAt ops i ≠ dstAt ops j := by
 have hi := (Array.getElem?_eq_some_iff.1 ho).1; have h1 := List.all_eq_true.1 h i (List.mem_range.2 hi); rw [ho] at h1; simp only [Bool.and_eq_true, List.all_eq_true, List.mem_range, bne_iff_ne, Array.all_eq_true_iff_forall_mem, decide_eq_true_eq] at h1; refine ⟨?_, h1.1.2, h1.2⟩
 obtain ⟨t, ht⟩ := Option.isSome_iff_exists.1 h1.1.1; have : dstAt ops i = t := by unfold dstAt; rw [ho]; simp [ht]
 rw [this, ht]
theorem dst_ne {ops : Array Oper} (h : okB ops = true) {i j : Nat} (hi : i < ops.size) (hj : j < ops.size) (hne : i ≠ j) : dstAt ops i ≠ dstAt ops j := by
 rcases Nat.lt_or_gt_of_ne hne with h' | h'
 ·exact fun e => (ok_at h (Array.getElem?_eq_getElem hj)).2.2 i h' e.symm
 ·exact (ok_at h (Array.getElem?_eq_getElem hi)).2.2 j h'
def fill (ops : Array Oper) (T : Array Value) (x : Nat → Value) : Nat → Array Value
 | 0 => T
 | n + 1 => (fill ops T x n).setIfInBounds (dstAt ops n) (x (dstAt ops n))
theorem fill_size (ops : Array Oper) (T : Array Value) (x : Nat → Value) (n : Nat) : (fill ops T x n).size = T.size := by
 induction n with
 | zero => rfl
 | succ n ih => rw [fill, Array.size_setIfInBounds, ih]
theorem fill_at (ops : Array Oper) (T : Array Value) (x : Nat → Value) (n k : Nat) : (fill ops T x n)[k]? = if (∃ i, i < n ∧ dstAt ops i = k) ∧ k < T.size then some (x k) else T[k]? := by
 induction n with
 | zero => rw [fill, if_neg (by rintro ⟨⟨i, hi, _⟩, _⟩; omega)]
 | succ n ih =>
  rw [fill, Array.getElem?_setIfInBounds, ih, fill_size]; by_cases e : dstAt ops n = k
  ·rw [if_pos e]
   by_cases hk : k < T.size
   ·rw [if_pos (by omega), if_pos ⟨⟨n, by omega, e⟩, hk⟩, e]
   ·rw [if_neg (by omega), if_neg (fun h => hk h.2), Array.getElem?_eq_none (by omega)]
  ·rw [if_neg e]
   by_cases hc : (∃ i, i < n ∧ dstAt ops i = k) ∧ k < T.size
   ·rw [if_pos hc]
    obtain ⟨⟨i, hi, e'⟩, hk⟩ := hc; rw [if_pos ⟨⟨i, by omega, e'⟩, hk⟩]
   ·rw [if_neg hc, if_neg]
    rintro ⟨⟨i, hi, e'⟩, hk⟩; rcases Nat.lt_or_ge i n with h | h
    ·exact hc ⟨⟨i, h, e'⟩, hk⟩
    ·obtain rfl : i = n := by omega
     exact e e'
theorem fill_put (ops : Array Oper) (T : Array Value) (x : Nat → Value) (n i : Nat) (hi : i < n) (v : Value) : (fill ops T x n).setIfInBounds (dstAt ops i) v = fill ops T (upTo x (dstAt ops i) v) n := by
 refine Array.ext_getElem? fun k => ?_
 rw [Array.getElem?_setIfInBounds, fill_at, fill_at, fill_size]; by_cases e : dstAt ops i = k
 ·subst e
  rw [if_pos rfl]; by_cases hk : dstAt ops i < T.size
  ·rw [if_pos hk, if_pos ⟨⟨i, hi, rfl⟩, hk⟩]
   unfold upTo; rw [if_pos rfl]
  ·rw [if_neg hk, if_neg (fun h => hk h.2), Array.getElem?_eq_none (by omega)]
 ·rw [if_neg e]
  have : upTo x (dstAt ops i) v k = x k := by unfold upTo; rw [if_neg (fun h => e h.symm)]
  rw [this]
theorem fill_self (ops : Array Oper) (T : Array Value) (n : Nat) : fill ops T (fun k => T.getD k undef) n = T := by
 refine Array.ext_getElem? fun k => ?_
 rw [fill_at]; split
 ·rename_i h
  rw [Array.getElem?_eq_getElem h.2]; simp [h.2]
 ·rfl
def frameOf (ops : Array Oper) (a : Act) (x : Nat → Value) : Act := { a with tmps := fill ops a.tmps x ops.size }
theorem frame_put {ops : Array Oper} (hB : okB ops = true) (a : Act) (x : Nat → Value) {i : Nat} {o : Oper} (ho : ops[i]? = some o) (v : Value) : (frameOf ops a x).put o.dst v = frameOf ops a (upTo x (dstAt ops i) v) := by
 rw [(ok_at hB ho).1]; unfold frameOf Act.put; simp only
 rw [fill_put _ _ _ _ _ (Array.getElem?_eq_some_iff.1 ho).1]
structure Inv (ops : Array Oper) (Sp : Nat → Comes) (x0 : Nat → Value) (w0 : World) (l : Array Bool) (x : Nat → Value) (w : World) : Prop where
 size : l.size = ops.size
 ext : Ext w0 w
 closed : ∀ j o, ops[j]? = some o → l.getD j false = true → ∀ e ∈ o.after, Region.binds .any e = true → l.getD e.on false = true
 yes : ∀ i, i < ops.size → l.getD i false = true → (Sp i).holds (x (dstAt ops i)) w
 no : ∀ i, i < ops.size → l.getD i false = false → x (dstAt ops i) = x0 (dstAt ops i)
theorem any_ready {ops : Array Oper} {l : Array Bool} (hB : okB ops = true) (hs : l.size = ops.size) : ∀ d i, i = d → i < ops.size → l.getD i false = false → ∃ j, j ∈ Region.ready .any ops l := by
 intro d; induction d using Nat.strongRecOn with
 | _ d ih =>
  intro i hd hi hun; have ho := Array.getElem?_eq_getElem hi; by_cases hall : ∀ e ∈ ops[i].after, Region.binds .any e = true → l.getD e.on false = true
  ·have hil : i < l.size := by omega
   have hun2 : l.getD i true = false := by simp [hil] at hun ⊢; exact hun
   exact ⟨i, mem_ready.2 ⟨hun2, ops[i], ho, hall⟩⟩
  ·simp only [Classical.not_forall] at hall
   obtain ⟨e, he, -, hl⟩ := hall; have hlt := (ok_at hB ho).2.1 e he; exact ih e.on (by omega) e.on rfl (by omega) (by simpa using hl)
theorem run {P : Program} {ops : Array Oper} {Q : Exit → Act → World → Prop} {a : Act} {w0 : World} (Sp : Nat → Comes) (x0 : Nat → Value) (hB : okB ops = true)
  (step : ∀ i o, ops[i]? = some o → ∀ x w1, Ext w0 w1 → (∀ j, j < ops.size → waitsB o j = true → (Sp j).holds (x (dstAt ops j)) w1) → (∀ j oj, ops[j]? = some oj → waitsB oj i = true → x (dstAt ops j) = x0 (dstAt ops j)) →
   ∀ K : Act → World → Prop, Shut (∀ a' w' v, a' = (frameOf ops a x).put o.dst v → (Sp i).holds v w' → Ext w1 w' → K a' w') → if Region.wanted o (yielded ops (frameOf ops a x).tmps) = true then Oper.wp P o (frameOf ops a x) w1 K Q else K ((frameOf ops a x).put o.dst undef) w1)
  (fin : ∀ x w1, Ext w0 w1 → (∀ i, i < ops.size → (Sp i).holds (x (dstAt ops i)) w1) → Q .normal (frameOf ops a x) w1) :
  ∀ (fuel : Nat) (l : Array Bool) (x : Nat → Value) (w : World), unl l ops.size = fuel → Inv ops Sp x0 w0 l x w → wpAny P .any ops Q fuel l (frameOf ops a x) w := by
 intro fuel; induction fuel with
 | zero =>
  intro l x w hu hI; have hall := unl_zero _ hu; refine ⟨?_, fin x w hI.ext fun i hi => hI.yes i hi (hall i hi)⟩
  rw [List.eq_nil_iff_forall_not_mem]; intro j hj; obtain ⟨h1, o, ho, -⟩ := mem_ready.1 hj; have hj' := (Array.getElem?_eq_some_iff.1 ho).1; have h2 := hall j hj'; have hjl : j < l.size := by rw [hI.size]; exact hj'
  simp [hjl] at h1 h2
  rw [h1] at h2; cases h2
 | succ fuel ih =>
  intro l x w hu hI; refine ⟨fun h0 => ?_, fun i hi => ?_⟩
  ·exfalso
   have : ∃ i, i < ops.size ∧ l.getD i false = false := by
    by_cases hc : ∃ i, i < ops.size ∧ l.getD i false = false
    ·exact hc
    ·exfalso
     have hz : ∀ n, n ≤ ops.size → unl l n = 0 := by
      intro n; induction n with
      | zero => intro _; rfl
      | succ n ihn =>
       intro hn; rw [unl, ihn (by omega), if_pos]; cases hb : l.getD n false
       ·exact absurd ⟨n, by omega, hb⟩ hc
       ·rfl
     rw [hz _ (Nat.le_refl _)] at hu; omega
   obtain ⟨i, hi, hb⟩ := this; obtain ⟨j, hj⟩ := any_ready hB hI.size i i rfl hi hb; rw [h0] at hj; cases hj
  ·obtain ⟨h1, o, ho, hall⟩ := mem_ready.1 hi
   have hio := (Array.getElem?_eq_some_iff.1 ho).1; have hil : i < l.size := by rw [hI.size]; exact hio
   have h1' : l.getD i false = false := by simp [hil] at h1 ⊢; exact h1
   refine wpOp_step ho fun K hK => ?_
   refine step i o ho x w hI.ext (fun j hj hw => ?_) (fun j oj hoj hw => ?_) K (fun a' w' v ha' hv hE => hK a' w' ?_)
   ·obtain ⟨e, he, hb⟩ := Array.any_eq_true'.1 hw
    simp only [Bool.and_eq_true, beq_iff_eq] at hb; exact hI.yes j hj (by rw [← hb.2]; exact hall e he hb.1)
   ·have hj := (Array.getElem?_eq_some_iff.1 hoj).1
    refine hI.no j hj ?_
    cases hb : l.getD j false
    ·rfl
    ·obtain ⟨e, he, hb2⟩ := Array.any_eq_true'.1 hw
     simp only [Bool.and_eq_true, beq_iff_eq] at hb2; have := hI.closed j oj hoj hb e he hb2.1; rw [hb2.2, h1'] at this; cases this
   ·subst ha'
    rw [frame_put hB a x ho]; have hne : ∀ j, j < ops.size → j ≠ i → dstAt ops j ≠ dstAt ops i := fun j hj hne => dst_ne hB hj hio hne
    refine ih _ _ _ (by have := unl_set hil h1' ops.size hio; omega) ⟨by simp [hI.size], hI.ext.then hE, fun j oj hoj hl e he hb => ?_, fun j hj hl => ?_, fun j hj hl => ?_⟩
    ·by_cases e' : i = j
     ·subst e'
      obtain rfl : oj = o := Option.some.inj (hoj.symm.trans ho); exact getD_set_true (hall e he hb)
     ·rw [getD_set_ne false e'] at hl
      exact getD_set_true (hI.closed j oj hoj hl e he hb)
    ·unfold upTo
     by_cases e' : j = i
     ·subst e'
      rw [if_pos rfl]; exact hv
     ·rw [if_neg (hne j hj e')]
      rw [getD_set_ne false (Ne.symm e')] at hl; exact Comes.mono (hI.yes j hj hl) hE
    ·unfold upTo
     by_cases e' : j = i
     ·subst e'
      simp [hil] at hl
     ·rw [if_neg (hne j hj e')]
      rw [getD_set_ne false (Ne.symm e')] at hl; exact hI.no j hj hl
end specs
inductive AllFrom (Pr : Nat → Oper → Prop) : Nat → List Oper → Prop where
 | nil {k : Nat} : AllFrom Pr k []
 | cons {k : Nat} {o : Oper} {r : List Oper} (h : Pr k o) (t : AllFrom Pr (k + 1) r) : AllFrom Pr k (o :: r)
theorem AllFrom.get {Pr : Nat → Oper → Prop} {k : Nat} {l : List Oper} (h : AllFrom Pr k l) : ∀ i o, l[i]? = some o → Pr (k + i) o := by
 induction h with
 | nil => intro i o h; simp at h
 | @cons k o' r h t ih =>
  intro i o ho; cases i with
  | zero => simp at ho; subst ho; exact h
  | succ i =>
   have := ih i o (by simpa using ho); rw [show k + (i + 1) = k + 1 + i by omega]; exact this
end Go.Proofs.YtpcihajmcejliabGreatDoor
namespace Go.Proofs.YtpcihajmcejliabGreatDoor
open Go.RowKit
namespace chain
open specs (waitsB upTo unl unl_set unl_zero unl_all)
def dstOf (ops : Array Oper) (i : Nat) : Option Nat := match ops[i]? with | some o => o.dst | none => none
def dstAt (ops : Array Oper) (i : Nat) : Nat := (dstOf ops i).getD 0
def at_ (c : List Nat) (i : Nat) : Option Nat := c.findIdx? (· == i)
def okB (ops : Array Oper) (c : List Nat) : Bool :=
 ((List.range ops.size).all fun i => (match ops[i]? with | some o => o.guard.isNone && o.after.all (fun e => !Region.binds .any e || decide (e.on < i)) | none => false) && (List.range i).all fun j => (dstOf ops i).isNone || dstOf ops i != dstOf ops j) &&
 (List.range c.length).all fun m => decide (c.getD m 0 < ops.size) && (m == 0 || (match ops[c.getD m 0]? with | some o => waitsB o (c.getD (m - 1) 0) | none => false)) && at_ c (c.getD m 0) == some m
def setOpt (T : Array Value) (t : Option Nat) (x : Nat → Value) : Array Value := match t with | some t => T.setIfInBounds t (x t) | none => T
def fill (ops : Array Oper) (T : Array Value) (x : Nat → Value) : Nat → Array Value
 | 0 => T
 | n + 1 => setOpt (fill ops T x n) (dstOf ops n) x
theorem setOpt_size (T : Array Value) (t : Option Nat) (x : Nat → Value) : (setOpt T t x).size = T.size := by
 cases t <;> simp [setOpt]
theorem fill_size (ops : Array Oper) (T : Array Value) (x : Nat → Value) (n : Nat) : (fill ops T x n).size = T.size := by
 induction n with
 | zero => rfl
 | succ n ih => rw [fill, setOpt_size, ih]
theorem fill_at (ops : Array Oper) (T : Array Value) (x : Nat → Value) (n k : Nat) : (fill ops T x n)[k]? = if (∃ i, i < n ∧ dstOf ops i = some k) ∧ k < T.size then some (x k) else T[k]? := by
 induction n with
 | zero => rw [fill, if_neg (by rintro ⟨⟨i, hi, _⟩, _⟩; omega)]
 | succ n ih =>
  rw [fill]; cases hd : dstOf ops n with
  | none =>
   rw [setOpt, ih]; by_cases hc : (∃ i, i < n ∧ dstOf ops i = some k) ∧ k < T.size
   ·rw [if_pos hc]
    obtain ⟨⟨i, hi, e'⟩, hk⟩ := hc; rw [if_pos ⟨⟨i, by omega, e'⟩, hk⟩]
   ·rw [if_neg hc, if_neg]
    rintro ⟨⟨i, hi, e'⟩, hk⟩; rcases Nat.lt_or_ge i n with h | h
    ·exact hc ⟨⟨i, h, e'⟩, hk⟩
    ·obtain rfl : i = n := by omega
     rw [hd] at e'; cases e'
  | some t =>
   rw [setOpt, Array.getElem?_setIfInBounds, ih, fill_size]; by_cases e : t = k
   ·rw [if_pos e]
    by_cases hk : k < T.size
    ·rw [if_pos (by omega), if_pos ⟨⟨n, by omega, by rw [hd, e]⟩, hk⟩, e]
    ·rw [if_neg (by omega), if_neg (fun h => hk h.2), Array.getElem?_eq_none (by omega)]
   ·rw [if_neg e]
    by_cases hc : (∃ i, i < n ∧ dstOf ops i = some k) ∧ k < T.size
    ·rw [if_pos hc]
     obtain ⟨⟨i, hi, e'⟩, hk⟩ := hc; rw [if_pos ⟨⟨i, by omega, e'⟩, hk⟩]
    ·rw [if_neg hc, if_neg]
     rintro ⟨⟨i, hi, e'⟩, hk⟩; rcases Nat.lt_or_ge i n with h | h
     ·exact hc ⟨⟨i, h, e'⟩, hk⟩
     ·obtain rfl : i = n := by omega
      rw [hd] at e'; cases e'; exact e rfl
theorem fill_put (ops : Array Oper) (T : Array Value) (x : Nat → Value) (n i t : Nat) (hi : i < n) (ht : dstOf ops i = some t) (v : Value) : (fill ops T x n).setIfInBounds t v = fill ops T (upTo x t v) n := by
 refine Array.ext_getElem? fun k => ?_
 rw [Array.getElem?_setIfInBounds, fill_at, fill_at, fill_size]; by_cases e : t = k
 ·subst e
  rw [if_pos rfl]; by_cases hk : t < T.size
  ·rw [if_pos hk, if_pos ⟨⟨i, hi, ht⟩, hk⟩]
   unfold upTo; rw [if_pos rfl]
  ·rw [if_neg hk, if_neg (fun h => hk h.2), Array.getElem?_eq_none (by omega)]
 ·rw [if_neg e]
  have : upTo x t v k = x k := by unfold upTo; rw [if_neg (fun h => e h.symm)]
  rw [this]
theorem fill_self (ops : Array Oper) (T : Array Value) (n : Nat) : fill ops T (fun k => T.getD k undef) n = T := by
 refine Array.ext_getElem? fun k => ?_
 rw [fill_at]; split
 ·rename_i h
  rw [Array.getElem?_eq_getElem h.2]; simp [h.2]
 ·rfl
def frameOf (ops : Array Oper) (a : Act) (x : Nat → Value) : Act := { a with tmps := fill ops a.tmps x ops.size }
def slots (ops : Array Oper) (i : Nat) (x : Nat → Value) (v : Value) : Nat → Value := match dstOf ops i with | some t => upTo x t v | none => x
theorem ok_at {ops : Array Oper} {c : List Nat} (h : okB ops c = true) {i : Nat} {o : Oper} (ho : ops[i]? = some o) : o.guard = none ∧ (∀ e ∈ o.after, Region.binds .any e = true → e.on < i) ∧ ∀ j t, j < i → dstOf ops i = some t → dstOf ops j ≠ some t := by
 have hi := (Array.getElem?_eq_some_iff.1 ho).1; have h1 := List.all_eq_true.1 (Bool.and_eq_true_iff.1 h).1 i (List.mem_range.2 hi); rw [ho] at h1; simp only [Bool.and_eq_true, List.all_eq_true, List.mem_range, Bool.or_eq_true, bne_iff_ne, Array.all_eq_true_iff_forall_mem, decide_eq_true_eq, Option.isNone_iff_eq_none] at h1; refine ⟨h1.1.1, fun e he hb => by have := h1.1.2 e he; rw [hb] at this; simpa using this, fun j t hj ht e => ?_⟩
 rcases h1.2 j hj with h2 | h2
 ·rw [h2] at ht; cases ht
 ·exact h2 (ht.trans e.symm)
theorem ok_chain {ops : Array Oper} {c : List Nat} (h : okB ops c = true) {m : Nat} (hm : m < c.length) : c.getD m 0 < ops.size ∧ (m = 0 ∨ ∃ o, ops[c.getD m 0]? = some o ∧ waitsB o (c.getD (m - 1) 0) = true) ∧ at_ c (c.getD m 0) = some m := by
 have h1 := List.all_eq_true.1 (Bool.and_eq_true_iff.1 h).2 m (List.mem_range.2 hm); simp only [Bool.and_eq_true, Bool.or_eq_true, beq_iff_eq, decide_eq_true_eq] at h1; refine ⟨h1.1.1, ?_, h1.2⟩
 rcases h1.1.2 with h2 | h2
 ·exact .inl h2
 ·cases ho : ops[c.getD m 0]? with
  | none => rw [ho] at h2; cases h2
  | some o => rw [ho] at h2; exact .inr ⟨o, rfl, h2⟩
theorem at_some {c : List Nat} {i m : Nat} (h : at_ c i = some m) : m < c.length ∧ c.getD m 0 = i := by
 unfold at_ at h; rw [List.findIdx?_eq_some_iff_getElem] at h; obtain ⟨h1, h2, -⟩ := h; refine ⟨h1, ?_⟩
 simp only [beq_iff_eq] at h2; simp [h1, h2]
theorem dst_ne {ops : Array Oper} {c : List Nat} (h : okB ops c = true) {i j t : Nat} (hi : i < ops.size) (hj : j < ops.size) (hne : i ≠ j) (ht : dstOf ops i = some t) : dstOf ops j ≠ some t := by
 rcases Nat.lt_or_gt_of_ne hne with h' | h'
 ·intro e
  exact (ok_at h (Array.getElem?_eq_getElem hj)).2.2 i t h' e ht
 ·exact (ok_at h (Array.getElem?_eq_getElem hi)).2.2 j t h' ht
theorem frame_put {ops : Array Oper} (a : Act) (x : Nat → Value) {i : Nat} {o : Oper} (ho : ops[i]? = some o) (v : Value) : (frameOf ops a x).put o.dst v = frameOf ops a (slots ops i x v) := by
 have hd : dstOf ops i = o.dst := by unfold dstOf; rw [ho]
 unfold frameOf Act.put slots; rw [hd]; cases hod : o.dst with
 | none => rfl
 | some t =>
  simp only
  rw [fill_put _ _ _ _ i t (Array.getElem?_eq_some_iff.1 ho).1 (by rw [hd, hod])]
def val (c : List Nat) (f : Nat → Value) (vs : List Value) (i : Nat) : Value := match at_ c i with | some m => vs.getD m undef | none => f i
structure Inv (ops : Array Oper) (c : List Nat) (f : Nat → Value) (F : List Value → World → Prop) (l : Array Bool) (x : Nat → Value) (w : World) (vs : List Value) : Prop where
 size : l.size = ops.size
 holds : F vs w
 len : vs.length ≤ c.length
 closed : ∀ j o, ops[j]? = some o → l.getD j false = true → ∀ e ∈ o.after, Region.binds .any e = true → l.getD e.on false = true
 done : ∀ m, m < c.length → (l.getD (c.getD m 0) false = true ↔ m < vs.length)
 yes : ∀ i t, i < ops.size → l.getD i false = true → dstOf ops i = some t → x t = val c f vs i
theorem any_ready {ops : Array Oper} {c : List Nat} {l : Array Bool} (hB : okB ops c = true) (hs : l.size = ops.size) : ∀ d i, i = d → i < ops.size → l.getD i false = false → ∃ j, j ∈ Region.ready .any ops l := by
 intro d; induction d using Nat.strongRecOn with
 | _ d ih =>
  intro i hd hi hun; have ho := Array.getElem?_eq_getElem hi; by_cases hall : ∀ e ∈ ops[i].after, Region.binds .any e = true → l.getD e.on false = true
  ·have hil : i < l.size := by omega
   have hun2 : l.getD i true = false := by simp [hil] at hun ⊢; exact hun
   exact ⟨i, mem_ready.2 ⟨hun2, ops[i], ho, hall⟩⟩
  ·simp only [Classical.not_forall] at hall
   obtain ⟨e, he, hbd, hl⟩ := hall; have hlt := (ok_at hB ho).2.1 e he hbd; exact ih e.on (by omega) e.on rfl (by omega) (by simpa using hl)
def Step (P : Program) (ops : Array Oper) (n : Nat) (c : List Nat) (f : Nat → Value) (F : List Value → World → Prop) (frame : (Nat → Value) → Act) (Q : Exit → Act → World → Prop) (i : Nat) (o : Oper) : Prop :=
 ∀ x vs w, F vs w → (∀ m, at_ c i = some m → vs.length = m) → (∀ j t, j < n → waitsB o j = true → dstOf ops j = some t → x t = val c f vs j) →
  ∀ K : Act → World → Prop, Shut (∀ a' w' v, a' = (frame x).put o.dst v → (match at_ c i with | some _ => F (vs ++ [v]) w' | none => v = f i ∧ w' = w) → K a' w') → Oper.wp P o (frame x) w K Q
theorem run {P : Program} {ops : Array Oper} {Q : Exit → Act → World → Prop} {a : Act} (c : List Nat) (f : Nat → Value) (F : List Value → World → Prop) (hB : okB ops c = true)
  (step : ∀ i o, ops[i]? = some o → ∀ x vs w, F vs w → (∀ m, at_ c i = some m → vs.length = m) → (∀ j t, j < ops.size → waitsB o j = true → dstOf ops j = some t → x t = val c f vs j) →
   ∀ K : Act → World → Prop, Shut (∀ a' w' v, a' = (frameOf ops a x).put o.dst v → (match at_ c i with | some _ => F (vs ++ [v]) w' | none => v = f i ∧ w' = w) → K a' w') → Oper.wp P o (frameOf ops a x) w K Q)
  (fin : ∀ x vs w, vs.length = c.length → F vs w → (∀ i t, i < ops.size → dstOf ops i = some t → x t = val c f vs i) → Q .normal (frameOf ops a x) w) :
  ∀ (fuel : Nat) (l : Array Bool) (x : Nat → Value) (w : World) (vs : List Value), unl l ops.size = fuel → Inv ops c f F l x w vs → wpAny P .any ops Q fuel l (frameOf ops a x) w := by
 intro fuel; induction fuel with
 | zero =>
  intro l x w vs hu hI; have hall := unl_zero _ hu; refine ⟨?_, fin x vs w ?_ hI.holds fun i t hi ht => hI.yes i t hi (hall i hi) ht⟩
  ·rw [List.eq_nil_iff_forall_not_mem]
   intro j hj; obtain ⟨h1, o, ho, -⟩ := mem_ready.1 hj; have hj' := (Array.getElem?_eq_some_iff.1 ho).1; have h2 := hall j hj'; have hjl : j < l.size := by rw [hI.size]; exact hj'
   simp [hjl] at h1 h2
   rw [h1] at h2; cases h2
  ·rcases Nat.lt_or_ge vs.length c.length with h | h
   ·have := (hI.done _ h).1 (hall _ (ok_chain hB h).1)
    omega
   ·have := hI.len; omega
 | succ fuel ih =>
  intro l x w vs hu hI; refine ⟨fun h0 => ?_, fun i hi => ?_⟩
  ·exfalso
   have : ∃ i, i < ops.size ∧ l.getD i false = false := by
    by_cases hc : ∃ i, i < ops.size ∧ l.getD i false = false
    ·exact hc
    ·exfalso
     have hz : ∀ n, n ≤ ops.size → unl l n = 0 := by
      intro n; induction n with
      | zero => intro _; rfl
      | succ n ihn =>
       intro hn; rw [unl, ihn (by omega), if_pos]; cases hb : l.getD n false
       ·exact absurd ⟨n, by omega, hb⟩ hc
       ·rfl
     rw [hz _ (Nat.le_refl _)] at hu; omega
   obtain ⟨i, hi, hb⟩ := this; obtain ⟨j, hj⟩ := any_ready hB hI.size i i rfl hi hb; rw [h0] at hj; cases hj
  ·obtain ⟨h1, o, ho, hall⟩ := mem_ready.1 hi
   have hio := (Array.getElem?_eq_some_iff.1 ho).1; have hil : i < l.size := by rw [hI.size]; exact hio
   have h1' : l.getD i false = false := by simp [hil] at h1 ⊢; exact h1
   have hdep : ∀ j, waitsB o j = true → l.getD j false = true := fun j hw => by
    obtain ⟨e, he, hb⟩ := Array.any_eq_true'.1 hw; simp only [Bool.and_eq_true, beq_iff_eq] at hb; rw [← hb.2]; exact hall e he hb.1
   have hlen : ∀ m, at_ c i = some m → vs.length = m := fun m hm => by
    obtain ⟨hmc, hmi⟩ := at_some hm
    have hno : ¬ m < vs.length := fun h => by
     have := (hI.done m hmc).2 h; rw [hmi, h1'] at this; cases this
    rcases (ok_chain hB hmc).2.1 with h | ⟨o', ho', hw⟩
    ·omega
    ·rw [hmi] at ho'
     obtain rfl : o' = o := Option.some.inj (ho'.symm.trans ho); rcases Nat.eq_zero_or_pos m with h0 | h0
     ·omega
     ·have := (hI.done (m - 1) (by omega)).1 (hdep _ hw)
      omega
   refine wpOp_step ho fun K hK => ?_
   have hwd : Region.wanted o (yielded ops (frameOf ops a x).tmps) = true := by simp [Region.wanted, (ok_at hB ho).1]
   rw [if_pos hwd]; refine step i o ho x vs w hI.holds hlen (fun j t hj hw ht => hI.yes j t hj (hdep j hw) ht) K (fun a' w' v ha' hv => hK a' w' ?_)
   subst ha'; rw [frame_put a x ho]
   have hne : ∀ j t u, j < ops.size → j ≠ i → dstOf ops j = some t → slots ops i x u t = x t := fun j t u hj hne ht => by
    unfold slots; cases hd : dstOf ops i with
    | none => rfl
    | some t' =>
     simp only [upTo]; rw [if_neg]; rintro rfl; exact dst_ne hB hio hj (Ne.symm hne) hd ht
   have heq : ∀ t u, dstOf ops i = some t → slots ops i x u t = u := fun t u ht => by
    unfold slots; rw [ht]; simp [upTo]
   cases hc : at_ c i with
   | none =>
    rw [hc] at hv; obtain ⟨rfl, rfl⟩ := hv; refine ih _ _ _ vs (by have := unl_set hil h1' ops.size hio; omega) ⟨by simp [hI.size], hI.holds, hI.len, fun j oj hoj hl e he hb => ?_, fun m hm => ?_, fun j t hj hl ht => ?_⟩
    ·by_cases e' : i = j
     ·subst e'
      obtain rfl : oj = o := Option.some.inj (hoj.symm.trans ho); exact getD_set_true (hall e he hb)
     ·rw [getD_set_ne false e'] at hl
      exact getD_set_true (hI.closed j oj hoj hl e he hb)
    ·have hmi : c.getD m 0 ≠ i := fun e => by
      have := (ok_chain hB hm).2.2; rw [e, hc] at this; cases this
     rw [getD_set_ne false (Ne.symm hmi)]; exact hI.done m hm
    ·by_cases e' : j = i
     ·subst e'
      rw [heq t _ ht]; unfold val; rw [hc]
     ·rw [hne j t _ hj e' ht]
      rw [getD_set_ne false (Ne.symm e')] at hl; exact hI.yes j t hj hl ht
   | some m =>
    rw [hc] at hv; have hvl := hlen m hc; obtain ⟨hmc, hmi⟩ := at_some hc; refine ih _ _ _ (vs ++ [v]) (by have := unl_set hil h1' ops.size hio; omega) ⟨by simp [hI.size], hv, by simp; omega, fun j oj hoj hl e he hb => ?_, fun m' hm' => ?_, fun j t hj hl ht => ?_⟩
    ·by_cases e' : i = j
     ·subst e'
      obtain rfl : oj = o := Option.some.inj (hoj.symm.trans ho); exact getD_set_true (hall e he hb)
     ·rw [getD_set_ne false e'] at hl
      exact getD_set_true (hI.closed j oj hoj hl e he hb)
    ·rw [List.length_append, List.length_singleton, hvl]
     by_cases e' : m' = m
     ·subst e'
      rw [hmi]; simp [hil]
     ·have hmi' : c.getD m' 0 ≠ i := fun e => by
       have := (ok_chain hB hm').2.2; rw [e, hc] at this; cases this; exact e' rfl
      rw [getD_set_ne false (Ne.symm hmi'), hI.done m' hm', hvl]; omega
    ·by_cases e' : j = i
     ·subst e'
      rw [heq t _ ht]; unfold val; rw [hc]; simp [← hvl]
     ·rw [hne j t _ hj e' ht]
      rw [getD_set_ne false (Ne.symm e')] at hl; rw [hI.yes j t hj hl ht]; unfold val; cases hcj : at_ c j with
      | none => rfl
      | some mj =>
       obtain ⟨hmjc, hmjj⟩ := at_some hcj; have : mj < vs.length := (hI.done mj hmjc).1 (by rw [hmjj]; exact hl); simp [List.getElem?_append_left this]
end chain
end Go.Proofs.YtpcihajmcejliabGreatDoor
