/- The reference's Parts, texts, signOf. The words that are printed are tokens; what scanning them gives, one behind the other with a blank between. The printed words are read as the node. The printed words of statements, declarations and a module are read as them. The printed words of declarations and of a module are read as them; what is printed is read as what it was printed of. What is printed of a text that is read is no longer than its tokens. What is read costs no less than what is printed of it: by how it is read. The reference's words as one text; label, spaced. The reference's list, round, at, digits. -/
import Derived.Test.YtpcihajmcejliabGreatDoorName
import Derived.Test.YtpcihajmcejliabGreatDoorRPrB
import Derived.Test.YtpcihajmcejliabGreatDoorSyn11
namespace Go.Proofs.YtpcihajmcejliabGreatDoor
open Go.RowKit
def partsF (s : ByteArray) : ByteArray × ByteArray × Bool :=
 if (cutB s).2.2 = false then (noText, s, true) else if (cutB s).2.1.data.toList.contains 46 = true then (noText, noText, false) else ((cutB s).1, (cutB s).2.1, true)
def textsF (s : ByteArray) (c : Int) : Bool :=
 if c = 0 then decide (s = noText) else if c = 1 then nameB s.data.toList
 else (partsF s).2.2 && nameB (partsF s).2.1.data.toList && (decide ((partsF s).1.size + (partsF s).2.1.size = s.size) || nameB (partsF s).1.data.toList)
namespace rpr
open synw synr prt
theorem cut_at {l : List UInt8} {p : Nat} (hp : p < l.length) (h : l[p] = 46) (hno : ∀ j (hj : j < l.length), j < p → l[j] ≠ 46) : Lib.cut l [46] = (l.take p, l.drop (p + 1), true) := by
 have e : l = l.take p ++ 46 :: l.drop (p + 1) := by
  rw [← h, ← List.drop_eq_getElem_cons hp, List.take_append_drop]
 have hn : ∀ c ∈ l.take p, c ≠ 46 := by
  intro c hc; obtain ⟨j, hj, rfl⟩ := List.getElem_of_mem hc; rw [List.length_take] at hj; rw [List.getElem_take]; exact hno j (by omega) (by omega)
 have := cut_join (l.take p) (l.drop (p + 1)) hn; rw [← e] at this; exact this
theorem size_list (s : ByteArray) : s.data.toList.length = s.size := by rw [Array.length_toList]; rfl
theorem parts_none {s : ByteArray} (h : ∀ j (hj : j < s.data.toList.length), s.data.toList[j] ≠ 46) : partsF s = (noText, s, true) := by
 have hn : ∀ c ∈ s.data.toList, c ≠ 46 := fun c hc => by
  obtain ⟨j, hj, rfl⟩ := List.getElem_of_mem hc; exact h j hj
 unfold partsF cutB; rw [cut_none _ hn, if_pos rfl]
theorem parts_one {s : ByteArray} {p : Nat} (hp : p < s.data.toList.length) (h : s.data.toList[p] = 46) (hno : ∀ j (hj : j < s.data.toList.length), j ≠ p → s.data.toList[j] ≠ 46) : partsF s = (s.extract 0 p, s.extract (p + 1) s.size, true) := by
 have hc := cut_at hp h fun j hj hjp => hno j hj (by omega)
 unfold partsF cutB; rw [hc, if_neg (show ¬ (true = false) by decide)]
 have hd : (s.data.toList.drop (p + 1)).contains 46 = false := by
  rw [List.contains_eq_any_beq, List.any_eq_false]; intro x hx; obtain ⟨j, hj, rfl⟩ := List.getElem_of_mem hx; rw [List.length_drop] at hj; have := hno (p + 1 + j) (by omega) (by omega); rw [List.getElem_drop]; simpa using fun e => this e.symm
 rw [if_neg (by simp only [hd]; decide)]; have e1 : (⟨(s.data.toList.take p).toArray⟩ : ByteArray) = s.extract 0 p := ba_ext (by rw [show p = 0 + p by omega, lex.extract_list]; simp); have e2 : (⟨(s.data.toList.drop (p + 1)).toArray⟩ : ByteArray) = s.extract (p + 1) s.size := ba_ext (by rw [lex.extract_end]); rw [e1, e2]
theorem parts_two {s : ByteArray} {p k : Nat} (hp : p < s.data.toList.length) (h : s.data.toList[p] = 46) (hno : ∀ j (hj : j < s.data.toList.length), j < k → j ≠ p → s.data.toList[j] ≠ 46) (hk : k < s.data.toList.length) (hpk : p < k) (h2 : s.data.toList[k] = 46) : partsF s = (noText, noText, false) := by
 have hc := cut_at hp h fun j hj hjp => hno j hj (by omega) (by omega)
 unfold partsF cutB; rw [hc, if_neg (show ¬ (true = false) by decide)]
 have hd : (s.data.toList.drop (p + 1)).contains 46 = true := by
  rw [List.contains_eq_any_beq, List.any_eq_true]; refine ⟨46, ?_, by decide⟩
  have e : (s.data.toList.drop (p + 1))[k - (p + 1)]'(by rw [List.length_drop]; omega) = 46 := by
   rw [List.getElem_drop]; simp only [show p + 1 + (k - (p + 1)) = k by omega]; exact h2
  rw [← e]; exact List.getElem_mem _
 rw [if_pos hd]
theorem texts_whole (s : ByteArray) : textsF s 2 = true ↔ WholeT s := by
 unfold textsF; rw [if_neg (by decide), if_neg (by decide)]; obtain ⟨b1, b2⟩ := cut_back s.data.toList; constructor
 ·intro h
  unfold partsF at h; cases hc : (cutB s).2.2 with
  | false =>
   rw [hc] at h; simp only [if_true, Bool.and_eq_true] at h; exact .inl h.1.2
  | true =>
   rw [hc] at h; simp only [Bool.true_eq_false, if_false] at h; have hl := b1 hc; split at h
   ·simp at h
   ·simp only [Bool.and_eq_true, Bool.or_eq_true, decide_eq_true_eq] at h
    obtain ⟨⟨-, hb⟩, ha⟩ := h
    have hlen : s.size = (cutB s).1.size + (cutB s).2.1.size + 1 := by
     have := congrArg List.length hl; rw [size_list, List.length_append, List.length_cons] at this; have e1 : (Lib.cut s.data.toList [46]).1.length = (cutB s).1.size := by unfold cutB; exact List.size_toArray.symm
     have e2 : (Lib.cut s.data.toList [46]).2.1.length = (cutB s).2.1.size := by unfold cutB; exact List.size_toArray.symm
     omega
    refine .inr ⟨_, _, ha.resolve_left (by omega), hb, ba_ext ?_⟩
    rw [hl]; simp [sDot, cutB]
 ·intro h
  rcases cutB_whole h with ⟨h1, e⟩ | ⟨a, b, ha, hb, rfl, e⟩
  ·have h1' : nameB s.data.toList = true := h1
   unfold partsF; rw [e]; simp only [if_true, h1', Bool.true_and, Bool.or_eq_true, decide_eq_true_eq]; left
   have : noText.size = 0 := rfl; omega
  ·have hb' : nameB b.data.toList = true := hb
   have ha' : nameB a.data.toList = true := ha; unfold partsF; rw [e]
   have hd : b.data.toList.contains 46 = false := by
    rw [List.contains_eq_any_beq, List.any_eq_false]; intro x hx; have := name_dot hb' x hx; simpa using fun e => this e.symm
   simp only [Bool.true_eq_false, if_false, hd, Bool.false_eq_true, ha', hb', Bool.true_and, Bool.or_true]
theorem byte_at (s : ByteArray) (k : Nat) (h : k < s.size) : ((s[k].toNat : Int) == 46) = decide (s.data.toList[k]'(by rw [size_list]; exact h) = 46) := by
 have e : s[k] = s.data.toList[k]'(by rw [size_list]; exact h) := by rw [Array.getElem_toList]; rfl
 rw [e]; generalize s.data.toList[k]'(by rw [size_list]; exact h) = c; have h46 : (46 : UInt8).toNat = 46 := rfl; by_cases hc : c = 46
 ·subst hc; rfl
 ·have : c.toNat ≠ 46 := fun e => hc (UInt8.toNat_inj.1 (by rw [e, h46]))
  simp [hc]; omega
set_option maxRecDepth 100000 in
set_option maxHeartbeats 4000000 in
theorem parts_any (s : ByteArray) (w : World) (hs : s.size ≤ 9223372036854775807) :
  Calls Tryz.prog 235 #[.string s] w fun e w' => e = .returned (.tuple #[.string (partsF s).1, .string (partsF s).2.1, .bool (partsF s).2.2]) ∧ Ext w w' := by
 have H0 := Z_ (parts_none (s := s)); have H1 := Z_ (fun p hp h hno => parts_one (s := s) (p := p) hp h hno); have H2 := Z_ (fun p k hp h hno hk hpk h2 => parts_two (s := s) (p := p) (k := k) hp h hno hk hpk h2); generalize partsF s = T at *; have HB := Z_ (byte_at s); obtain ⟨N, hN⟩ : ∃ N, s.size = N := ⟨_, rfl⟩; have HN := Z_ hN; rw [hN] at hs; go_enter Tryz.func235, Tryz.ntmps235
 go_wp2_with fail
 go_loopw [5, 6] (fun z i wr => ∃ k : Nat, k ≤ N ∧ i = .int .i64 k ∧ wr = w ∧ Hid ((z = .int .i64 (-1) ∧ ∀ j (hj : j < s.data.toList.length), j < k → s.data.toList[j] ≠ 46) ∨ ∃ (p : Nat) (hp : p < s.data.toList.length), z = .int .i64 p ∧ p < k ∧ s.data.toList[p] = 46 ∧ ∀ j (hj : j < s.data.toList.length), j < k → j ≠ p → s.data.toList[j] ≠ 46)) (fun _ i _ => N - (intOf i).toNat)
 case atStart => exact ⟨0, Nat.zero_le _, rfl, rfl, .inl ⟨rfl, fun j hj h => by omega⟩⟩
 case round =>
  obtain ⟨k, hk, rfl, rfl, hr⟩ := hrel; by_cases hlt : k < N
  ·have hki : (k : Int) < (N : Int) := by omega
   have hkd : decide ((k : Int) < (N : Int)) = true := by simpa using hki
   have hks : k < s.size := by rw [hN]; exact hlt
   have hb := HB.out k hks; by_cases hc : s.data.toList[k]'(by rw [size_list]; exact hks) = 46
   ·have hb2 : ((s[k].toNat : Int) == 46) = true := by rw [hb]; simpa using hc
    have HC := Z_ hc; clear hb hc; rcases hr.out with ⟨rfl, hno⟩ | ⟨p, hp, rfl, hpk, h1, h2⟩
    ·have HNO := Z_ hno
     clear hr hno; go_wp2_with fail
     go_roundw
     case rel => exact ⟨k + 1, by omega, by go_num, trivial, .inr ⟨k, by rw [size_list]; exact hks, rfl, by omega, HC.out, fun j hj h1 h2 => HNO.out j hj (by omega)⟩⟩
     case measure => simp [intOf]; omega
    ·have hT := H2.out p k hp h1 h2 (by rw [size_list]; exact hks) hpk HC.out
     subst hT; have hp0 : (0 : Int) ≤ (p : Int) := by omega
     have hpd : decide ((0 : Int) ≤ (p : Int)) = true := by simp
     clear hr h1 h2; go_wp2_with fail
     go_ret3
     exact ⟨rfl, Chg.refl _ _⟩
   ·have hb2 : ((s[k].toNat : Int) == 46) = false := by rw [hb]; simpa using hc
    have HC := Z_ hc; clear hb hc; go_wp2_with fail
    go_roundw
    case rel =>
     refine ⟨k + 1, by omega, by go_num, trivial, ?_⟩
     rcases hr.out with ⟨rfl, hno⟩ | ⟨p, hp, rfl, hpk, h1, h2⟩
     ·refine .inl ⟨rfl, fun j hj h => ?_⟩
      by_cases e : j = k
      ·subst e; exact HC.out
      ·exact hno j hj (by omega)
     ·refine .inr ⟨p, hp, rfl, by omega, h1, fun j hj h h9 => ?_⟩
      by_cases e : j = k
      ·subst e; exact HC.out
      ·exact h2 j hj (by omega) h9
    case measure => simp [intOf]; omega
  ·obtain rfl : k = N := by omega
   have hkd : decide ((k : Int) < (k : Int)) = false := by simp
   rcases hr.out with ⟨rfl, hno⟩ | ⟨p, hp, rfl, hpk, h1, h2⟩
   ·have hT := H0.out fun j hj => hno j hj (by rw [size_list, hN] at hj; exact hj)
    subst hT; clear hr hno; go_wp2_with fail
    go_ret3
    exact ⟨rfl, Chg.refl _ _⟩
   ·have hT := H1.out p hp h1 fun j hj h => h2 j hj (by rw [size_list, hN] at hj; exact hj) h
    have HT := Z_ hT; have hpn : ¬ ((p : Int) < 0) := by omega
    have hpd : decide ((p : Int) < 0) = false := by simp
    have hps : (p : Int) ≤ (s.size : Int) := by rw [hN]; omega
    have hw : IntKind.i64.wrap ((p : Int) + 1) = ((p + 1 : Nat) : Int) := by rw [wrap_small _ (by omega) (by omega)]; rfl
    clear hr h1 h2 hT; have hpl : p ≤ s.size := by rw [hN]; omega
    have hpl1 : p + 1 ≤ s.size := by rw [hN]; omega
    have hps1 : ((p : Int) + 1) ≤ (s.size : Int) := by omega
    go_wp2_with fail
    go_quiet (fail)
    go_wp2_with fail
    go_ret3
    exact ⟨by have e := HT.out; rw [hN] at e; rw [e]; rfl, (Chg.refl _ _).drewN _⟩
theorem parts_sum (s : ByteArray) : (partsF s).1.size + (partsF s).2.1.size ≤ s.size := by
 obtain ⟨b1, b2⟩ := cut_back s.data.toList; unfold partsF; split
 ·have : noText.size = 0 := rfl
  simp only; omega
 ·rename_i hc
  have hc1 : (cutB s).2.2 = true := by simpa using hc
  split
  ·have : noText.size = 0 := rfl
   simp only; omega
  ·have := congrArg List.length (b1 hc1)
   rw [size_list, List.length_append, List.length_cons] at this; have e1 : (Lib.cut s.data.toList [46]).1.length = (cutB s).1.size := by unfold cutB; exact List.size_toArray.symm
   have e2 : (Lib.cut s.data.toList [46]).2.1.length = (cutB s).2.1.size := by unfold cutB; exact List.size_toArray.symm
   simp only; omega
theorem parts_size (s : ByteArray) : (partsF s).1.size ≤ s.size ∧ (partsF s).2.1.size ≤ s.size := by
 have h := prt.cut_size s; unfold partsF; split
 ·exact ⟨Nat.zero_le _, Nat.le_refl _⟩
 ·split
  ·exact ⟨Nat.zero_le _, Nat.zero_le _⟩
  ·exact h
theorem empty_eq (s : ByteArray) : s.toList.isEmpty = decide (s = noText) := by
 have e : s.toList = s.data.toList := Go.ByteArray.toList_eq s; rw [e]; by_cases h : s = noText
 ·subst h; rfl
 ·have : s.data.toList ≠ [] := fun h9 => h (ba_ext h9)
  rw [decide_eq_false h]; simpa using this
set_option maxRecDepth 100000 in
set_option maxHeartbeats 4000000 in
theorem texts_any (s : ByteArray) (c : Int) (w : World) (hs : s.size ≤ maxLen) :
  Calls Tryz.prog 174 #[.string s, .int .i64 c] w fun e w' => e = .returned (.bool (textsF s c)) ∧ Ext w w' := by
 have hs2 : s.size ≤ 9223372036854775807 := by unfold maxLen at hs; omega
 unfold textsF; by_cases h0 : c = 0
 ·subst h0
  rw [if_pos rfl]; have he := empty_eq s; go_enter Tryz.func174, Tryz.ntmps174
  go_wp2_with fail
  go_ret
  exact ⟨rfl, Chg.refl _ _⟩
 ·rw [if_neg h0]
  have hc0 : (c == 0) = false := by simpa using h0
  by_cases h1 : c = 1
  ·subst h1
   rw [if_pos rfl]; have HC := Z_ (rname.name_any s w hs2); go_enter Tryz.func174, Tryz.ntmps174
   go_wp2_with fail
   refine HC.out.mono ?_
   rintro e w2 ⟨rfl, hE⟩; go_wp2_with fail
   go_ret
   exact ⟨rfl, hE⟩
  ·rw [if_neg h1]
   have hc1 : (c == 1) = false := by simpa using h1
   have HP := Z_ (parts_any s w hs2); obtain ⟨z1, z2⟩ := parts_size s; have z3 := parts_sum s; generalize partsF s = T at *; obtain ⟨a, b, t⟩ := T; simp only at HP z1 z2 z3 ⊢; have hw : IntKind.i64.wrap ((a.size : Int) + (b.size : Int)) = ((a.size + b.size : Nat) : Int) := by unfold maxLen at hs; rw [wrap_small _ (by omega) (by omega)]; rfl
   have HB := Z_ (fun u => rname.name_any b u (by omega)); have HA := Z_ (fun u => rname.name_any a u (by omega)); clear hs hs2 h0 h1; go_enter Tryz.func174, Tryz.ntmps174
   go_wp2_with fail
   refine HP.out.mono ?_
   rintro e w2 ⟨rfl, hE⟩; cases t with
   | false =>
    go_wp2_with fail
    go_ret
    exact ⟨rfl, hE⟩
   | true =>
    go_wp2_with fail
    refine (HB.out w2).mono ?_
    rintro e w3 ⟨rfl, hE3⟩; have hE4 := hE.ext hE3; obtain ⟨nb, hnb⟩ : ∃ nb, nameB b.data.toList = nb := ⟨_, rfl⟩; rw [hnb]; cases nb with
    | false =>
     go_wp2_with fail
     go_ret
     exact ⟨by simp [hnb], hE4⟩
    | true =>
     by_cases hsz : a.size + b.size = s.size
     ·have hsd : (((a.size + b.size : Nat) : Int) == (s.size : Int)) = true := by rw [hsz]; simp
      go_wp2_with fail
      go_ret
      exact ⟨by simp [hnb, hsz], hE4⟩
     ·have hsd : (((a.size + b.size : Nat) : Int) == (s.size : Int)) = false := by simp only [beq_eq_false_iff_ne]; omega
      go_wp2_with fail
      refine (HA.out w3).mono ?_
      rintro e w5 ⟨rfl, hE5⟩; go_wp2_with fail
      go_ret
      exact ⟨by simp [hnb, hsz]; intro h; omega, hE4.ext hE5⟩
theorem sg_hit : ∀ j (h : j < synr.signsL.length), signF synr.signsL[j].2.1 = (synr.signsL[j].1, synr.signsL[j].2.2) := by
 have h : ∀ j : Fin synr.signsL.length, signF synr.signsL[j].2.1 = (synr.signsL[j].1, synr.signsL[j].2.2) := by decide
 exact fun j hj => h ⟨j, hj⟩
theorem sg_miss {m : Int} (h : ∀ j (hj : j < synr.signsL.length), synr.signsL[j].2.1 ≠ m) : signF m = (noText, -1) := by
 have g0 := h 0 (by decide); have g1 := h 1 (by decide); have g2 := h 2 (by decide); have g3 := h 3 (by decide); have g4 := h 4 (by decide)
 have g5 := h 5 (by decide); have g6 := h 6 (by decide); have g7 := h 7 (by decide); have g8 := h 8 (by decide)
 simp only [synr.signsL, List.getElem_cons_zero, List.getElem_cons_succ] at g0 g1 g2 g3 g4 g5 g6 g7 g8; simp only [signF, if_neg (Ne.symm g0), if_neg (Ne.symm g1), if_neg (Ne.symm g2), if_neg (Ne.symm g3), if_neg (Ne.symm g4), if_neg (Ne.symm g5), if_neg (Ne.symm g6), if_neg (Ne.symm g7), if_neg (Ne.symm g8)]
set_option maxRecDepth 100000 in
set_option maxHeartbeats 4000000 in
theorem signOf_any (m : Int) (w : World) : Calls Tryz.prog 175 #[.int .i64 m] w fun e w' => e = .returned (.tuple #[.string (signF m).1, .int .i64 (signF m).2]) ∧ Ext w w' := by
 obtain ⟨T, hT⟩ : ∃ T, signF m = T := ⟨_, rfl⟩; rw [hT]; have HH := Z_ (fun (j : Nat) (hj : j < synr.signsL.length) (h : synr.signsL[j].2.1 = m) => (h ▸ sg_hit j hj).symm.trans hT); have HM := Z_ (fun h => (sg_miss (m := m) h).symm.trans hT); clear hT; go_enter Tryz.func175, Tryz.ntmps175
 go_wp2_with fail
 refine (signs_any _).mono ?_
 rintro e w1 ⟨g1, g2, g3, rfl, hcell, ⟨hl1, hl2, hl3⟩, hE⟩; have HC := Z_ hcell; have hlen : synr.signsL.length = 9 := rfl; clear hcell; generalize synr.signsL = L at *; have HL := Z_ hlen; have HE := Z_ hE; clear hlen hE; go_wp2_with fail
 go_loop [7] (fun i => ∃ j : Nat, j ≤ 9 ∧ i = .int .i64 j ∧ Hid (∀ (q : Nat) (hq : q < L.length), q < j → L[q].2.1 ≠ m)) (fun i => 9 - (intOf i).toNat)
 case atStart => exact ⟨0, Nat.zero_le _, rfl, fun q hq h => by omega⟩
 case round =>
  obtain ⟨j, hj, rfl, hrel⟩ := hrel; by_cases hlt : j < 9
  ·have hji : (j : Int) < 9 := by omega
   have hjl : j < L.length := by rw [HL.out]; exact hlt
   obtain ⟨hc1, hc2, hc3⟩ := HC.out j hjl; obtain ⟨x, hx⟩ : ∃ x, L[j] = x := ⟨_, rfl⟩; rw [hx] at hc1 hc2 hc3; have HX := Z_ hx; clear hx; obtain ⟨x1, x2, x3⟩ := x; simp only at hc1 hc2 hc3; by_cases he : x2 = m
   ·have hT := (HH.out j hjl (by rw [HX.out]; exact he)).symm
    rw [HX.out] at hT; subst hT; subst he; go_wp2_with fail
    go_quiet (fail)
    go_wp2_with fail
    go_ret2
    exact ⟨rfl, HE.out.drewN _⟩
   ·have HNE := Z_ he
    have h2 : (x2 == m) = false := by simpa using he
    clear he; go_wp2_with fail
    go_round
    case rel =>
     refine ⟨j + 1, by omega, by go_num, fun q hq h => ?_⟩
     by_cases e : q = j
     ·subst e; rw [HX.out]; exact HNE.out
     ·exact hrel.out q hq (by omega)
    case measure => simp [intOf]; omega
  ·obtain rfl : j = 9 := by omega
   have hT := (HM.out (fun q hq => hrel.out q hq (by have := HL.out; omega))).symm; subst hT; clear hrel; go_wp2_with fail
   go_ret2
   exact ⟨rfl, HE.out⟩
end rpr
end Go.Proofs.YtpcihajmcejliabGreatDoor
namespace Go.Proofs.YtpcihajmcejliabGreatDoor
open Go.RowKit
def kindW (w : ByteArray) : Int := (tokF w.data.toList).1
def GoodL (l : List UInt8) : Prop := (tokF l).2 = (l.length, 0)
instance (l : List UInt8) : Decidable (GoodL l) := inferInstanceAs (Decidable ((tokF l).2 = (l.length, 0)))
def GoodW (w : ByteArray) : Prop := GoodL w.data.toList
instance (w : ByteArray) : Decidable (GoodW w) := inferInstanceAs (Decidable (GoodL w.data.toList))
namespace prt
open synw
theorem dig_nat {d : Nat} (h : d < 10) : (UInt8.ofNat (48 + d)).toNat = 48 + d := by
 rw [UInt8.toNat_ofNat']; exact Nat.mod_eq_of_lt (by omega)
theorem decFrom_snoc (l : List UInt8) (c : UInt8) : decFrom 0 (l ++ [c]) = decFrom 0 l * 10 + (c.toNat - 48) := by
 unfold decFrom; rw [List.foldl_append]; simp only [List.foldl_cons, List.foldl_nil]; rw [dstep_eq]
theorem dd_all (u : Nat) : digs (Lib.decDigits u) = true ∧ decFrom 0 (Lib.decDigits u) = u ∧ Lib.decDigits u ≠ [] ∧ (u ≠ 0 → (Lib.decDigits u).head? ≠ some 48) ∧ (u < 10 → (Lib.decDigits u).length = 1) := by
 induction u using Nat.strongRecOn with
 | _ u ih =>
  rw [Lib.decDigits]; split
  ·rename_i h
   have hd := dig_nat h; refine ⟨?_, ?_, by simp, fun h0 => ?_, fun _ => rfl⟩
   ·rw [digs_cons, hd]; exact ⟨by omega, rfl⟩
   ·rw [decFrom_step, hd]; unfold decFrom; simp
   ·intro e
    simp only [List.head?_cons, Option.some.injEq] at e; have := congrArg UInt8.toNat e; rw [hd] at this; have h48 : (48 : UInt8).toNat = 48 := rfl; omega
  ·rename_i h
   obtain ⟨h1, h2, h3, h4, -⟩ := ih (u / 10) (by omega); have hd := dig_nat (d := u % 10) (by omega); refine ⟨?_, ?_, by simp, fun _ => ?_, fun h' => absurd h' h⟩
   ·unfold digs at h1 ⊢
    rw [List.all_append, h1, Bool.true_and]; have : digs [UInt8.ofNat (48 + u % 10)] = true := by rw [digs_cons, hd]; exact ⟨by omega, rfl⟩
    exact this
   ·rw [decFrom_snoc, h2, hd]; omega
   ·rw [List.head?_append]
    cases hh : (Lib.decDigits (u / 10)).head? with
    | none => exact absurd (List.head?_eq_none_iff.1 hh) h3
    | some c =>
     rw [hh] at h4; exact h4 (by omega)
theorem digs_part {l : List UInt8} (h : digs l = true) : l.all (fun c => partB c.toNat) = true := by
 unfold digs at h; rw [List.all_eq_true] at h ⊢; intro x hx; unfold partB; rw [h x hx]; simp
theorem dig_tok {m : Int} (h0 : 0 ≤ m) (h1 : m < 9223372036854775808) : tokF (Lib.itoa m) = (2, (Lib.itoa m).length, 0) ∧ decFrom 0 (Lib.itoa m) = m.toNat := by
 have e : Lib.itoa m = Lib.decDigits m.toNat := by unfold Lib.itoa; rw [if_neg (by omega)]
 rw [e]; obtain ⟨d1, d2, d3, d4, d5⟩ := dd_all m.toNat; refine ⟨?_, d2⟩
 have hn : numeralF (Lib.decDigits m.toNat) = 0 := by
  unfold numeralF; rw [if_neg (by rw [d1]; decide), if_neg ?_, if_neg (by omega)]; rintro ⟨h3, h4⟩; rcases Nat.lt_or_ge m.toNat 10 with h5 | h5
  ·rw [d5 h5] at h3; omega
  ·exact d4 (by omega) h4
 cases hl : Lib.decDigits m.toNat with
 | nil => exact absurd hl d3
 | cons c r =>
  rw [hl] at d1 hn; have hr : runN partB (c :: r) = (c :: r).length := (name.runN_all _ _).2 (digs_part d1); have hc := (digs_cons c r).1 d1
  have hl : letterB c.toNat = false := by
   unfold letterB; rw [decide_eq_false_iff_not]; omega
  have hd : digitB c.toNat = true := (digitB_iff c).2 hc.1; simp only [tokF, hl, hd, if_true, Bool.false_eq_true, if_false, hr, List.take_length, hn]
theorem kind_dig {m : Int} (h0 : 0 ≤ m) (h1 : m < 9223372036854775808) : kindW (digW m) = 2 := by
 unfold kindW digW; rw [(dig_tok h0 h1).1]
def wordsJ : List (List UInt8) → List UInt8
 | [] => []
 | [x] => x
 | x :: y :: r => x ++ 32 :: wordsJ (y :: r)
theorem join_words (l : List (List UInt8)) : Lib.join l [32] = wordsJ l := by
 induction l with
 | nil => rfl
 | cons x r ih =>
  cases r with
  | nil => rw [Lib.join_one]; rfl
  | cons y r =>
   rw [wordsJ, ← ih, Lib.join_cons, Lib.join_cons]; simp [Lib.joinTail]
end prt
end Go.Proofs.YtpcihajmcejliabGreatDoor
namespace Go.Proofs.YtpcihajmcejliabGreatDoor
open Go.RowKit
namespace prt
open synw
theorem whole_head {t : ByteArray} (ht : WholeT t) : ∃ w ws, wholeW t = w :: ws ∧ NameT w := by
 unfold wholeW; rcases cutB_whole ht with ⟨h1, e⟩ | ⟨a, b, ha, hb, rfl, e⟩
 ·rw [e]; exact ⟨_, _, rfl, h1⟩
 ·rw [e]; exact ⟨_, _, rfl, ha⟩
theorem then_snd {a b : PO} (h : a.1 = true) : (a.then b).2 = a.2 ++ b.2 := by unfold PO.then; rw [if_pos h]
theorem say_then2 (l : List ByteArray) (p : PO) : ((sayP l).then p).2 = l ++ p.2 := then_snd rfl
theorem must_then2 {b : Bool} (h : b = true) (p : PO) : (mustP b).then p = p := by subst h; simp [PO.then, mustP]
theorem wholeP_eq {t : ByteArray} {n : Nat} {a b : Int} (ht : WholeT t) (h1 : a ≤ (n : Int)) (h2 : b < 0 ∨ (n : Int) ≤ b) : wholeP t 0 n a b = (true, wholeW t) := by
 have h := wholeP_ok.2 ⟨ht, rfl, h1, h2⟩; unfold wholeP at h ⊢; rw [then_ok1, must_ok1] at h; rw [must_then2 h.1]; rfl
theorem w_neg (k : Int) (x : Nd) : (exP k (.mk 20 noText 0 [x])).2 = sMinus :: (exP 3 x).2 := by
 simp [exP, exK, finP, kidP, kidLev, PO.then, mustP, sayP, plainB, kidsB]
theorem w_not (k : Int) (x : Nd) : (exP k (.mk 21 noText 0 [x])).2 = sNot :: (exP 3 x).2 := by
 simp [exP, exK, finP, kidP, kidLev, PO.then, mustP, sayP, plainB, kidsB]
theorem w_num (k : Int) {m : Int} (h : 0 ≤ m) : (exP k (.mk 15 noText m [])).2 = [digW m] := by
 simp [exP, finP, PO.then, mustP, sayP, h]
theorem w_name (k : Int) {t : ByteArray} (ht : WholeT t) : (exP k (.mk 16 t 0 [])).2 = wholeW t := by
 have e : wholeP t 0 ([] : List Nd).length 0 0 = (true, wholeW t) := wholeP_eq ht (by simp) (.inr (by simp)); simp only [exP, finP]; rw [e]; simp [PO.then, mustP]
theorem w_item (k : Int) {t : ByteArray} {x : Nd} (ht : WholeT t) (hx : (exP 0 x).1 = true) : (exP k (.mk 17 t 0 [x])).2 = wholeW t ++ sBra :: ((exP 0 x).2 ++ [sKet]) := by
 have e : wholeP t 0 [x].length 1 1 = (true, wholeW t) := wholeP_eq ht (by simp) (.inr (by simp)); simp only [exP, finP]; rw [e]; simp [PO.then, sayP, exK, kidP, kidLev, hx]
theorem w_call (k : Int) {t : ByteArray} {l : List Nd} (ht : WholeT t) (hl : ∀ y ∈ l, (exP 0 y).1 = true) : (exP k (.mk 18 t 0 l)).2 = wholeW t ++ sOpen :: ((comP (l.map (exP 0)) true).2 ++ [sClose]) := by
 have e : wholeP t 0 l.length 0 (-1) = (true, wholeW t) := wholeP_eq ht (by omega) (.inl (by decide)); have hc : (comP (l.map (exP 0)) true).1 = true := (com_ok1 _ _).2 fun p hp => by obtain ⟨y, hy, rfl⟩ := List.mem_map.1 hp; exact hl y hy
 simp only [exP, finP, exK_call]; rw [e]; simp [PO.then, sayP, hc]
def leftL (m : Int) : Int := if (signF m).2 = 0 then 1 else (signF m).2
def opW (m : Int) (x y : Nd) : List ByteArray := (exP (leftL m) x).2 ++ (signF m).1 :: (exP ((signF m).2 + 1) y).2
theorem w_op (k : Int) {m : Int} {x y : Nd} (h0 : 1 ≤ m) (h1 : m ≤ 9) (hx : (exP (leftL m) x).1 = true) : (exP k (.mk 19 noText m [x, y])).2 = if (signF m).2 < k then sOpen :: (opW m x y ++ [sClose]) else opW m x y := by
 have hs := sign_iff.2 ⟨h0, h1⟩; have e1 : exP (kidLev 19 m 0) x = exP (leftL m) x := rfl; have e2 : exP (kidLev 19 m 1) y = exP ((signF m).2 + 1) y := rfl; simp only [exP, finP, exK, if_true]; rw [must_then2 (plain_iff.2 ⟨rfl, by decide, by decide, by simp, .inr (by simp)⟩), must_then2 (by simpa using hs), e1, e2]; unfold wrapP opW; simp only [kidP, List.getD_cons_zero, List.getD_cons_succ]; by_cases hk : (signF m).2 < k
 ·rw [if_pos (by simpa using hk), if_pos hk]
  simp [PO.then, sayP, hx]
 ·rw [if_neg (by simpa using hk), if_neg hk]
  simp [PO.then, sayP, hx]
theorem sign_opOf {m : Int} (h0 : 1 ≤ m) (h1 : m ≤ 9) : opOf (signF m).1 = (m, (signF m).2) ∧ kindW (signF m).1 = 3 ∧ (signF m).1 ≠ sDot ∧ (signF m).1 ≠ sOpen ∧ (signF m).1 ≠ sBra ∧ ((signF m).2 = 0 ∨ (signF m).2 = 1 ∨ (signF m).2 = 2) := by
 have h : m = 1 ∨ m = 2 ∨ m = 3 ∨ m = 4 ∨ m = 5 ∨ m = 6 ∨ m = 7 ∨ m = 8 ∨ m = 9 := by omega
 rcases h with rfl | rfl | rfl | rfl | rfl | rfl | rfl | rfl | rfl <;> decide
def HeadE (w : ByteArray) : Prop := nameB w.data.toList = true ∨ kindW w = 2 ∨ w = sMinus ∨ w = sNot ∨ w = sOpen
theorem ex_head : ∀ (x : Nd) (k : Int), Rng x → IsNd x → KdE x.kd → ∃ w ws, (exP k x).2 = w :: ws ∧ HeadE w := by
 refine nd_ind fun kd t m l ih k hr hX hke => ?_
 have hk := hr.kids; have hkid := hX.kids; have hf := hX.form; have ok : ∀ y ∈ l, KdE y.kd → ∀ le, (exP le y).1 = true := fun y hy h le => (ex_form y le (hk y hy)).2 ⟨hkid y hy, h⟩
 unfold KdE Nd.kd at hke; cases hf with
 | num h0 h1 => exact ⟨_, _, w_num k h0, .inr (.inl (kind_dig h0 h1))⟩
 | name ht =>
  obtain ⟨w, ws, e, hw⟩ := whole_head ht; exact ⟨w, ws, by rw [w_name k ht, e], .inl hw⟩
 | @item _ x ht hx =>
  obtain ⟨w, ws, e, hw⟩ := whole_head ht; exact ⟨w, _, by rw [w_item k ht (ok x (by simp) hx 0), e]; rfl, .inl hw⟩
 | call ht hl =>
  obtain ⟨w, ws, e, hw⟩ := whole_head ht; exact ⟨w, _, by rw [w_call k ht fun y hy => ok y hy (hl y hy) 0, e]; rfl, .inl hw⟩
 | @op _ x y h0 h1 hx hy =>
  rw [w_op k h0 h1 (ok x (by simp) hx _)]; split
  ·exact ⟨_, _, rfl, .inr (.inr (.inr (.inr rfl)))⟩
  ·obtain ⟨w, ws, e, hw⟩ := ih x (by simp) (leftL m) (hk x (by simp)) (hkid x (by simp)) hx
   exact ⟨w, _, by unfold opW; rw [e]; rfl, hw⟩
 | neg hx => exact ⟨_, _, w_neg k _, .inr (.inr (.inl rfl))⟩
 | not_ hx => exact ⟨_, _, w_not k _, .inr (.inr (.inr (.inl rfl)))⟩
 | _ => exact absurd hke (by simp)
end prt
end Go.Proofs.YtpcihajmcejliabGreatDoor
namespace Go.Proofs.YtpcihajmcejliabGreatDoor
open Go.RowKit
namespace prt
open synw
theorem w_loc {t : ByteArray} {m : Int} {x : Nd} (ht : NameT t) (h0 : 0 ≤ m) (h1 : m ≤ 1) (hx : (exP 0 x).1 = true) : (stP (.mk 7 t m [x])).2 = labW (decide (m = 1)) :: t :: sEq :: ((exP 0 x).2 ++ [sSemi]) := by
 simp only [stP, stK, finS]; rw [must_then2 (named_iff.2 ⟨ht, h0, h1, by simp, .inr (by simp)⟩)]; simp [PO.then, sayP, kidP, hx]
theorem w_set {p x : Nd} (hp : KdP p.kd) (h1 : (exP 0 p).1 = true) (hx : (exP 0 x).1 = true) : (stP (.mk 8 noText 0 [p, x])).2 = (exP 0 p).2 ++ sEq :: ((exP 0 x).2 ++ [sSemi]) := by
 unfold KdP at hp; simp only [stP, stK, finS]; simp [PO.then, sayP, mustP, kidP, hx, h1, plainB, kidsB, kd0, hp]
theorem w_do {c : Nd} (hc : c.kd = 18) (h1 : (exP 0 c).1 = true) : (stP (.mk 9 noText 0 [c])).2 = sDo :: ((exP 0 c).2 ++ [sSemi]) := by
 simp only [stP, stK, finS]; simp [PO.then, sayP, mustP, kidP, h1, plainB, kidsB, kd0, hc]
theorem w_if2 {x b : Nd} (hx : (exP 0 x).1 = true) (hb : (blP b).1 = true) : (stP (.mk 10 noText 0 [x, b])).2 = sIf :: sOpen :: ((exP 0 x).2 ++ sClose :: (blP b).2) := by
 simp only [stP, stK, finS]; simp only [true_or, if_true, List.length_cons, List.length_nil]; rw [must_then2 (plain_iff.2 ⟨rfl, by decide, by decide, by simp, .inr (by simp)⟩)]; simp [PO.then, sayP, kidP, hx, hb]
theorem w_if3 {x b c : Nd} (hx : (exP 0 x).1 = true) (hb : (blP b).1 = true) (hc : (blP c).1 = true) : (stP (.mk 10 noText 0 [x, b, c])).2 = sIf :: sOpen :: ((exP 0 x).2 ++ sClose :: ((blP b).2 ++ sElse :: (blP c).2)) := by
 simp only [stP, stK, finS]; simp only [true_or, if_true, List.length_cons, List.length_nil]; rw [must_then2 (plain_iff.2 ⟨rfl, by decide, by decide, by simp, .inr (by simp)⟩)]; simp [PO.then, sayP, kidP, hx, hb, hc]
theorem w_while {x b : Nd} (hx : (exP 0 x).1 = true) (hb : (blP b).1 = true) : (stP (.mk 11 noText 0 [x, b])).2 = sWhile :: sOpen :: ((exP 0 x).2 ++ sClose :: (blP b).2) := by
 simp only [stP, stK, finS]; simp only [or_true, if_true, List.length_cons, List.length_nil]; rw [must_then2 (plain_iff.2 ⟨rfl, by decide, by decide, by simp, .inr (by simp)⟩)]; simp [PO.then, sayP, kidP, hx, hb]
theorem w_out {m : Int} {x : Nd} (h0 : 0 ≤ m) (h1 : m ≤ 1) (hx : (exP 0 x).1 = true) : (stP (.mk 12 noText m [x])).2 = sOut :: labW (decide (m = 1)) :: ((exP 0 x).2 ++ [sSemi]) := by
 simp only [stP, stK, finS]; simp only [true_or, if_true, List.length_cons, List.length_nil]; simp [PO.then, sayP, mustP, kidP, hx, plainB, kidsB, h0, h1]
theorem w_inp {m : Int} {x : Nd} (h0 : 0 ≤ m) (h1 : m ≤ 1) (hp : KdP x.kd) (hx : (exP 0 x).1 = true) : (stP (.mk 13 noText m [x])).2 = sIn :: labW (decide (m = 1)) :: ((exP 0 x).2 ++ [sSemi]) := by
 unfold KdP at hp; simp only [stP, stK, finS]; simp only [or_true, if_true, List.length_cons, List.length_nil]; simp [PO.then, sayP, mustP, kidP, hx, plainB, kidsB, h0, h1, kd0, hp]
theorem w_ret {x : Nd} (hx : (exP 0 x).1 = true) : (stP (.mk 14 noText 0 [x])).2 = sReturn :: ((exP 0 x).2 ++ [sSemi]) := by
 simp [stP, stK, finS, PO.then, sayP, mustP, kidP, hx, plainB, kidsB]
def stsW : List Nd → List ByteArray
 | [] => []
 | x :: r => (stP x).2 ++ stsW r
theorem seq_words : ∀ (l : List Nd), (∀ y ∈ l, (stP y).1 = true) → (seqP (stL l)).2 = stsW l ∧ (seqP (stL l)).1 = true := by
 intro l; induction l with
 | nil => intro _; exact ⟨rfl, rfl⟩
 | cons x r ih =>
  intro h; obtain ⟨i1, i2⟩ := ih fun y hy => h y (by simp [hy])
  have hx := h x (by simp); rw [stL, seqP, then_snd hx, then_ok1, i1, i2]; exact ⟨rfl, hx, rfl⟩
theorem w_block {l : List Nd} (h : ∀ y ∈ l, (stP y).1 = true) : (blP (.mk 6 noText 0 l)).2 = sCurl :: (stsW l ++ [sLruc]) := by
 obtain ⟨h1, h2⟩ := seq_words l h; rw [blP, finB, must_then2 (by decide), must_then2 (plain_iff.2 ⟨rfl, by decide, by decide, by omega, .inl (by decide)⟩), say_then2, then_snd h2, h1]; rfl
def HeadS (w : ByteArray) : Prop := nameB w.data.toList = true ∨ w = sHigh ∨ w = sLow ∨ w = sDo ∨ w = sIf ∨ w = sWhile ∨ w = sOut ∨ w = sIn ∨ w = sReturn
theorem head_lab (b : Bool) : HeadS (labW b) := by
 cases b
 ·exact .inr (.inr (.inl rfl))
 ·exact .inr (.inl rfl)
theorem place_head {p : Nd} (hr : Rng p) (hX : IsNd p) (hp : KdP p.kd) : ∃ w ws, (exP 0 p).2 = w :: ws ∧ NameT w := by
 obtain ⟨kd, t, m, ks⟩ := p; have hk := hr.kids; have hkid := hX.kids; have hf := hX.form; unfold KdP Nd.kd at hp; cases hf with
 | name ht =>
  obtain ⟨w, ws, e, hw⟩ := whole_head ht; exact ⟨w, ws, by rw [w_name _ ht, e], hw⟩
 | @item _ x ht hx =>
  have hok := (ex_form x 0 (hk x (by simp))).2 ⟨hkid x (by simp), hx⟩; obtain ⟨w, ws, e, hw⟩ := whole_head ht; exact ⟨w, _, by rw [w_item _ ht hok, e]; rfl, hw⟩
 | _ => exact absurd hp (by simp)
theorem st_head (x : Nd) (hr : Rng x) (hX : IsNd x) (hs : KdS x.kd) : ∃ w ws, (stP x).2 = w :: ws ∧ HeadS w := by
 obtain ⟨kd, t, m, l⟩ := x; have hk := hr.kids; have hkid := hX.kids; have hf := hX.form; unfold KdS Nd.kd at hs; have exo : ∀ y ∈ l, KdE y.kd → (exP 0 y).1 = true := fun y hy h => (ex_form y 0 (hk y hy)).2 ⟨hkid y hy, h⟩
 have blo : ∀ y ∈ l, y.kd = 6 → (blP y).1 = true := fun y hy h => (st_form y (hk y hy)).2.2 ⟨hkid y hy, h⟩
 cases hf with
 | @loc _ _ x ht h0 h1 hx => exact ⟨_, _, w_loc ht h0 h1 (exo x (by simp) hx), head_lab _⟩
 | @set p x hp hx =>
  obtain ⟨w, ws, e, hw⟩ := place_head (hk p (by simp)) (hkid p (by simp)) hp; exact ⟨w, _, by rw [w_set hp (exo p (by simp) (ndis.kp_ke hp)) (exo x (by simp) hx), e]; rfl, .inl hw⟩
 | @do_ c hc => exact ⟨_, _, w_do hc (exo c (by simp) (by rw [hc]; exact ⟨by decide, by decide⟩)), .inr (.inr (.inr (.inl rfl)))⟩
 | @if2 x b hx hb => exact ⟨_, _, w_if2 (exo x (by simp) hx) (blo b (by simp) hb), .inr (.inr (.inr (.inr (.inl rfl))))⟩
 | @if3 x b c hx hb hc => exact ⟨_, _, w_if3 (exo x (by simp) hx) (blo b (by simp) hb) (blo c (by simp) hc), .inr (.inr (.inr (.inr (.inl rfl))))⟩
 | @while_ x b hx hb => exact ⟨_, _, w_while (exo x (by simp) hx) (blo b (by simp) hb), .inr (.inr (.inr (.inr (.inr (.inl rfl)))))⟩
 | @out _ x h0 h1 hx => exact ⟨_, _, w_out h0 h1 (exo x (by simp) hx), .inr (.inr (.inr (.inr (.inr (.inr (.inl rfl))))))⟩
 | @inp _ x h0 h1 hx => exact ⟨_, _, w_inp h0 h1 hx (exo x (by simp) (ndis.kp_ke hx)), .inr (.inr (.inr (.inr (.inr (.inr (.inr (.inl rfl)))))))⟩
 | @ret x hx => exact ⟨_, _, w_ret (exo x (by simp) hx), .inr (.inr (.inr (.inr (.inr (.inr (.inr (.inr rfl)))))))⟩
 | _ => exact absurd hs (by simp)
end prt
end Go.Proofs.YtpcihajmcejliabGreatDoor
namespace Go.Proofs.YtpcihajmcejliabGreatDoor
open Go.RowKit
namespace prt
open synw
theorem w_var {t : ByteArray} {m : Int} (ht : NameT t) (h0 : 0 ≤ m) (h1 : m ≤ 3) : (varP (.mk 3 t m [])).2 = pubW m ++ labW (decide (m % 2 = 1)) :: t :: [sSemi] := by
 simp only [varP]; rw [must_then2 (named_iff.2 ⟨ht, h0, h1, by simp, .inr (by simp)⟩)]; simp [PO.then, sayP, seqP]
theorem w_arr {t : ByteArray} {m : Int} {y : Nd} (ht : NameT t) (h0 : 0 ≤ m) (h1 : m ≤ 3) (hy : y.kd = 15) (ho : (exP 0 y).1 = true) : (varP (.mk 3 t m [y])).2 = pubW m ++ labW (decide (m % 2 = 1)) :: t :: sBra :: ((exP 0 y).2 ++ sKet :: [sSemi]) := by
 simp only [varP]; rw [must_then2 (named_iff.2 ⟨ht, h0, h1, by simp, .inr (by simp)⟩)]; simp [PO.then, sayP, seqP, mustP, hy, ho]
def parsW : List Nd → Nat → List ByteArray
 | [], _ => []
 | x :: r, i => (if 0 < i then [sComma] else []) ++ labW (decide (x.nm = 1)) :: x.tx :: parsW r (i + 1)
theorem pars_words : ∀ (l : List Nd) (i : Nat), (∀ y ∈ l, y.kd = 5 ∧ namedB y.tx y.nm y.kids.length 0 0 1 = true) → (parsP l i).2 = parsW l i ∧ (parsP l i).1 = true := by
 intro l; induction l with
 | nil => intro i _; exact ⟨rfl, rfl⟩
 | cons x r ih =>
  intro i h; obtain ⟨i1, i2⟩ := ih (i + 1) fun y hy => h y (by simp [hy])
  obtain ⟨hk, hn⟩ := h x (by simp)
  have hp : (parP i x).1 = true ∧ (parP i x).2 = (if 0 < i then [sComma] else []) ++ labW (decide (x.nm = 1)) :: [x.tx] := by
   unfold parP; rw [must_then2 (by simpa using hk), must_then2 hn]; refine ⟨by simp only [then_ok1, say_ok1]; exact ⟨trivial, trivial, trivial⟩, ?_⟩
   rw [say_then2, say_then2]; rfl
  rw [parsP, then_snd hp.1, then_ok1, i1, i2, hp.2, parsW]; exact ⟨by simp, hp.1, rfl⟩
def givW (m : Int) : List ByteArray := if 4 ≤ m then [sGives, labW (decide (8 ≤ m))] else []
theorem w_proc {t : ByteArray} {m : Int} {ps : List Nd} {b : Nd} (ht : NameT t) (h0 : 0 ≤ m) (h1 : m ≤ 11) (hp : ∀ y ∈ ps, IsNd y ∧ y.kd = 5) : (procP (.mk 4 t m (ps ++ [b]))).2 = pubW m ++ sProc :: t :: sOpen :: (parsW ps 0 ++ sClose :: labW (decide (m % 2 = 1)) :: (givW m ++ (blP b).2)) := by
 obtain ⟨p1, p2⟩ := pars_words ps 0 fun y hy => (param_form y).2 (hp y hy)
 simp only [procP]; rw [must_then2 (named_iff.2 ⟨ht, h0, h1, by rw [List.length_append, List.length_singleton]; omega, .inl (by decide)⟩), List.dropLast_concat, List.getLastD_concat]
 have hg : (if 4 ≤ m then (sayP [sGives]).then (sayP [labW (decide (8 ≤ m))]) else sayP []) = (true, givW m) := by
  unfold givW; split
  ·rfl
  ·rfl
 rw [say_then2, say_then2, then_snd p2, say_then2, say_then2, hg, p1]; simp [PO.then]
theorem blk_head (b : Nd) (hr : Rng b) (hX : IsNd b) (h6 : b.kd = 6) : ∃ ws, (blP b).2 = sCurl :: ws := by
 obtain ⟨kd, t, m, l⟩ := b; have hk6 : kd = 6 := h6; subst hk6; have hf := hX.form; cases hf with
 | block hl => exact ⟨_, w_block fun y hy => (st_form y (hr.kids y hy)).1.2 ⟨hX.kids y hy, hl y hy⟩⟩
def declW (x : Nd) : List ByteArray := if x.kd = 2 then [sImport, x.tx, sSemi] else if x.kd = 3 then (varP x).2 else (procP x).2
def declsW : List Nd → List ByteArray
 | [] => []
 | x :: r => declW x ++ declsW r
theorem decls_words : ∀ (l : List Nd) (d : Bool), (∀ y ∈ l, Rng y) → (declsP l d).1 = true → (declsP l d).2 = declsW l := by
 intro l; induction l with
 | nil => intro d _ _; rfl
 | cons x r ih =>
  intro d hr h; rw [declsP] at h ⊢; rw [then_ok1] at h; rw [then_snd h.1, ih _ (fun y hy => hr y (by simp [hy])) h.2, declsW]; congr 1
  have h1 := h.1; unfold declP at h1 ⊢; unfold declW; split
  ·rename_i h2
   rw [if_pos h2, then_ok1, then_ok1, must_ok1, must_ok1] at h1; rw [must_then2 h1.1, must_then2 h1.2.1]; rfl
  ·rename_i h2
   rw [if_neg h2] at h1; split
   ·rfl
   ·rename_i h3
    rw [if_neg h3, then_ok1, must_ok1] at h1; rw [must_then2 h1.1]
theorem decl_head (x : Nd) (hr : Rng x) (hX : IsNd x) (h : x.kd = 3 ∨ x.kd = 4) : ∃ w ws, declW x = w :: ws ∧ w ≠ sImport := by
 have hpub : ∀ (m : Int) (w : ByteArray) (ws : List ByteArray), w ≠ sImport → ∃ w2 ws2, pubW m ++ w :: ws = w2 :: ws2 ∧ w2 ≠ sImport := by
  intro m w ws hw; unfold pubW; split
  ·exact ⟨_, _, rfl, by decide⟩
  ·exact ⟨_, _, rfl, hw⟩
 have hlab : ∀ b, labW b ≠ sImport := by intro b; cases b <;> decide
 obtain ⟨kd, t, m, ks⟩ := x; have hkid := hX.kids; have hf := hX.form; unfold declW; rw [if_neg (by rcases h with h | h <;> omega)]; rcases h with h | h
 ·rw [if_pos h]
  have hk3 : kd = 3 := h; subst hk3; cases hf with
  | var ht h0 h1 => rw [w_var ht h0 h1]; exact hpub _ _ _ (hlab _)
  | @array _ _ y ht h0 h1 hy =>
   rw [w_arr ht h0 h1 hy ((ex_form _ 0 (hr.kids _ (by simp))).2 ⟨hkid _ (by simp), by rw [hy]; exact ⟨by decide, by decide⟩⟩)]; exact hpub _ _ _ (hlab _)
 ·rw [if_neg (by omega)]
  have hk4 : kd = 4 := h; subst hk4; cases hf with
  | @proc _ _ ps b ht h0 h1 hp hb =>
   rw [w_proc ht h0 h1 fun y hy => ⟨hkid y (by simp [hy]), hp y hy⟩]; exact hpub _ _ _ (by decide)
theorem mod_words (x : Nd) (hr : Rng x) (h : (modP x).1 = true) : (modP x).2 = sModule :: x.tx :: sSemi :: declsW x.kids := by
 obtain ⟨k, t, m, l⟩ := x; simp only [modP] at h ⊢; rw [then_ok1, then_ok1, then_ok1, must_ok1, must_ok1] at h; rw [must_then2 h.1, must_then2 h.2.1, say_then2, decls_words l false hr.kids h.2.2.2]; rfl
end prt
end Go.Proofs.YtpcihajmcejliabGreatDoor
namespace Go.Proofs.YtpcihajmcejliabGreatDoor
open Go.RowKit
namespace prt
open synw ofm ndis
theorem rng_of_is : ∀ (x : Nd), IsNd x → Rng x := by
 refine nd_ind fun k t m l ih hX => ?_
 have hf := hX.form; refine .mk ?_ fun y hy => ih y hy (hX.kids y hy)
 cases hf <;> first | omega | decide
theorem dd_len : ∀ (u n : Nat), 1 ≤ n → u < 10 ^ n → (Lib.decDigits u).length ≤ n := by
 intro u; induction u using Nat.strongRecOn with
 | _ u ih =>
  intro n hn h; rw [Lib.decDigits]; split
  ·simpa using hn
  ·rename_i hu
   obtain ⟨k, rfl⟩ : ∃ k, n = k + 1 := ⟨n - 1, by omega⟩; rw [Nat.pow_succ] at h
   have hk : 1 ≤ k := by
    rcases Nat.eq_zero_or_pos k with rfl | hk
    ·simp at h; omega
    ·exact hk
   have := ih (u / 10) (by omega) k hk (by omega); rw [List.length_append, List.length_singleton]; omega
end prt
end Go.Proofs.YtpcihajmcejliabGreatDoor
namespace Go.Proofs.YtpcihajmcejliabGreatDoor
open Go.RowKit
namespace prt
open synw ofm ndis
theorem ex_ok {x : Nd} (hX : IsNd x) (hke : KdE x.kd) (k : Int) : (exP k x).1 = true := (ex_form x k (rng_of_is x hX)).2 ⟨hX, hke⟩
theorem st_ok {x : Nd} (hX : IsNd x) (hk : KdS x.kd) : (stP x).1 = true := (st_form x (rng_of_is x hX)).1.2 ⟨hX, hk⟩
theorem bl_ok {x : Nd} (hX : IsNd x) (hk : x.kd = 6) : (blP x).1 = true := (st_form x (rng_of_is x hX)).2.2 ⟨hX, hk⟩
end prt
end Go.Proofs.YtpcihajmcejliabGreatDoor
namespace Go.Proofs.YtpcihajmcejliabGreatDoor
open Go.RowKit
def jB (l : List ByteArray) : ByteArray := ⟨(prt.wordsJ (l.map fun s => s.data.toList)).toArray⟩
def bl1 : ByteArray := ⟨#[32]⟩
def showW (x : Nd) : List ByteArray :=
 if x.kd = 1 then (modP x).2 else if x.kd = 2 then [sImport, x.tx, sSemi] else if x.kd = 3 then (varP x).2 else if x.kd = 4 then (procP x).2
 else if x.kd = 5 then [labW (decide (x.nm = 1)), x.tx] else if x.kd = 6 then (blP x).2 else if x.kd ≤ 14 then (stP x).2 else (exP 0 x).2
namespace rpr
open synw synr prt
theorem jB_one (x : ByteArray) : jB [x] = x := ba_ext (by simp [jB, prt.wordsJ])
theorem jB_cons {x : ByteArray} {l : List ByteArray} (h : l ≠ []) : jB (x :: l) = x ++ (bl1 ++ jB l) := by
 cases l with
 | nil => exact absurd rfl h
 | cons y r => refine ba_ext ?_; simp [jB, prt.wordsJ, bl1]
theorem jB_app {a b : List ByteArray} (ha : a ≠ []) (hb : b ≠ []) : jB (a ++ b) = jB a ++ (bl1 ++ jB b) := by
 induction a with
 | nil => exact absurd rfl ha
 | cons x r ih =>
  cases r with
  | nil => rw [List.singleton_append, jB_cons hb, jB_one]
  | cons y r =>
   rw [List.cons_append, jB_cons (l := y :: r ++ b) (by simp), ih (by simp), jB_cons (l := y :: r) (by simp)]; simp [ByteArray.append_assoc]
set_option maxRecDepth 100000 in
theorem label_any (m : Int) (w : World) : Calls Tryz.prog 177 #[.int .i64 m] w fun e w' => e = .returned (.string (labW (decide (m.tmod 2 = 1)) ++ bl1)) ∧ Ext w w' := by
 by_cases h : m.tmod 2 = 1
 ·have hd : (m.tmod 2 == 1) = true := by simpa using h
  rw [decide_eq_true h]; go_enter Tryz.func177, Tryz.ntmps177
  go_wp2_with fail
  go_ret
  exact ⟨rfl, Chg.refl _ _⟩
 ·have hd : (m.tmod 2 == 1) = false := by simpa using h
  rw [decide_eq_false h]; go_enter Tryz.func177, Tryz.ntmps177
  go_wp2_with fail
  go_ret
  exact ⟨rfl, Chg.refl _ _⟩
theorem parts_whole {t : ByteArray} (h : WholeT t) : (partsF t = (noText, t, true) ∧ wholeW t = [t]) ∨ ∃ a b, partsF t = (a, b, true) ∧ wholeW t = [a, sDot, b] ∧ b.size < t.size ∧ a.size + b.size + 1 = t.size := by
 rcases cutB_whole h with ⟨h1, e⟩ | ⟨a, b, ha, hb, rfl, e⟩
 ·refine .inl ⟨?_, ?_⟩
  ·unfold partsF; rw [e]; rfl
  ·unfold wholeW; rw [e]; rfl
 ·refine .inr ⟨a, b, ?_, ?_, ?_, ?_⟩
  ·have hb' : nameB b.data.toList = true := hb
   have hd : b.data.toList.contains 46 = false := by
    rw [List.contains_eq_any_beq, List.any_eq_false]; intro x hx; have := name_dot hb' x hx; simpa using fun e => this e.symm
   unfold partsF; rw [e]; simp only [Bool.true_eq_false, if_false, hd, Bool.false_eq_true]
  ·unfold wholeW; rw [e]; rfl
  ·have : sDot.size = 1 := rfl
   simp only [ByteArray.size_append]; omega
  ·have : sDot.size = 1 := rfl
   simp only [ByteArray.size_append]; omega
set_option maxRecDepth 100000 in
set_option maxHeartbeats 2000000 in
theorem spaced_any (t : ByteArray) (w : World) (ht : WholeT t) (hs : t.size ≤ 100) : Calls Tryz.prog 181 #[.string t] w fun e w' => e = .returned (.string (jB (wholeW t))) ∧ Ext w w' := by
 have HP := Z_ (parts_any t w (by omega)); rcases parts_whole ht with ⟨e1, e2⟩ | ⟨a, b, e1, e2, h1, h2⟩
 ·rw [e1] at HP
  rw [e2, jB_one]; have hd : ((t.size : Int) == (t.size : Int)) = true := by simp
  go_enter Tryz.func181, Tryz.ntmps181
  go_wp2_with fail
  refine HP.out.mono ?_
  rintro e w2 ⟨rfl, hE⟩; go_wp2_with fail
  go_ret
  exact ⟨rfl, hE⟩
 ·rw [e1] at HP
  have hj : jB (wholeW t) = (a ++ ⟨#[32, 46, 32]⟩) ++ b := by
   rw [e2, jB_cons (by simp), jB_cons (by simp), jB_one]; refine ba_ext ?_
   simp [bl1, sDot]
  rw [hj]; have hd : ((b.size : Int) == (t.size : Int)) = false := by simp; omega
  go_enter Tryz.func181, Tryz.ntmps181
  go_wp2_with fail
  refine HP.out.mono ?_
  rintro e w2 ⟨rfl, hE⟩; go_wp2_with fail
  go_ret
  exact ⟨rfl, hE⟩
end rpr
end Go.Proofs.YtpcihajmcejliabGreatDoor
namespace Go.Proofs.YtpcihajmcejliabGreatDoor
open Go.RowKit
def lstS (sep : ByteArray) : Nat → List Nd → ByteArray → ByteArray
 | _, [], s => s
 | i, y :: r, s => lstS sep (i + 1) r ((if 0 < i then s ++ sep else s) ++ jB (showW y))
namespace rpr
open synw synr prt
theorem lst_le (sep : ByteArray) (hsep : sep.size ≤ 3) : ∀ (l : List Nd) (i : Nat) (s : ByteArray), (∀ y ∈ l, (jB (showW y)).size ≤ 160000) → (lstS sep i l s).size ≤ s.size + l.length * 160003 := by
 intro l; induction l with
 | nil => intro i s _; simp [lstS]
 | cons y r ih =>
  intro i s h; have hy := h y (by simp); have := ih (i + 1) ((if 0 < i then s ++ sep else s) ++ jB (showW y)) fun z hz => h z (by simp [hz])
  have h2 : ((if 0 < i then s ++ sep else s) ++ jB (showW y)).size ≤ s.size + 160003 := by
   rw [ByteArray.size_append]; split
   ·rw [ByteArray.size_append]; omega
   ·omega
  rw [lstS, List.length_cons, Nat.add_mul]; omega
def ShC (x : Nd) : Prop := ∀ (v : Value) (w : World), NgAt w x v → Calls Tryz.prog 97 #[v] w fun e w' => e = .returned (.string (jB (showW x))) ∧ Ext w w'
theorem ng_keep2 {w w' : World} (hE : Ext w w') : Keeps w w' := ⟨hE.size, fun p u hp => by
 rw [hE.cell (World.block_lt_of_cell? w _ hp) id]; exact hp⟩
theorem ng_ext2 {w w' : World} {x : Nd} {v : Value} (h : NgAt w x v) (hE : Ext w w') : NgAt w' x v := ngAt_keeps (ng_keep2 hE) x v h
set_option maxRecDepth 100000 in
set_option maxHeartbeats 4000000 in
theorem list_any (l : List Nd) (hz : ∀ y ∈ l, ShC y) (sep : ByteArray) (a : Option Addr) (cc : Nat) (w : World) (hrow : AllIn 4 NgIn w a l) (hl : l.length ≤ 500) (hsep : sep.size ≤ 3) (hb : ∀ y ∈ l, (jB (showW y)).size ≤ 160000) :
  Calls Tryz.prog 179 #[.slice a l.length cc, .string sep] w fun e w' => e = .returned (.string (lstS sep 0 l ⟨#[]⟩)) ∧ Ext w w' := by
 obtain ⟨N, hN⟩ : ∃ N, l.length = N := ⟨_, rfl⟩; have HN := Z_ hN; rw [hN] at hl ⊢; have HZ := Z_ hz; have HBD := Z_ hb
 have HI : Hid (∀ (u : World), Ext w u → AllIn 4 NgIn u a l) := by
  intro u hE; exact hrow.keeps (ng_keep2 hE) fun b o y => ngIn_keeps (ng_keep2 hE) b o y
 obtain ⟨R, hR⟩ : ∃ R, lstS sep 0 l ⟨#[]⟩ = R := ⟨_, rfl⟩; rw [hR]; have HR := Z_ hR; clear hR hz hrow hN hb; go_enter Tryz.func179, Tryz.ntmps179
 go_wp2_with fail
 go_loopw [5, 6] (fun sv i wr => ∃ (q : Nat) (s : ByteArray), q ≤ N ∧ i = .int .i64 q ∧ sv = .string s ∧ s.size ≤ q * 160003 ∧ Hid (lstS sep q (l.drop q) s = R) ∧ Hid (Ext w wr)) (fun _ i _ => N - (intOf i).toNat)
 case atStart => exact ⟨0, _, Nat.zero_le _, rfl, rfl, Nat.zero_le _, HR, Chg.refl _ _⟩
 case round =>
  obtain ⟨q, s, hq, rfl, rfl, hss, hr, HE⟩ := hrel; by_cases hlt : q < N
  ·have hql : q < l.length := by rw [HN.out]; exact hlt
   have hqi : (q : Int) < (N : Int) := by omega
   obtain ⟨b, o, rfl, hb, u, hu, hus, hcl⟩ := HI.out wr HE.out q hql; obtain ⟨k1, t1, n1, a1, l1, c1, rfl⟩ := ng_form hu; have q0 : wr.cell? ⟨b, o + q * 4, none⟩ = some (.int .i64 k1) := (hcl 0 (by decide)).trans rfl; have q1 : wr.cell? ⟨b, o + q * 4 + 1, none⟩ = some (.string t1) := (hcl 1 (by decide)).trans rfl; have q2 : wr.cell? ⟨b, o + q * 4 + 2, none⟩ = some (.int .i64 n1) := (hcl 2 (by decide)).trans rfl; have q3 : wr.cell? ⟨b, o + q * 4 + 3, none⟩ = some (.slice a1 l1 c1) := (hcl 3 (by decide)).trans rfl; have HC := Z_ (HZ.out l[q] (List.getElem_mem hql) _ wr hu); have hr2 := hr.out; rw [List.drop_eq_getElem_cons hql, lstS] at hr2; have hTs := HBD.out l[q] (List.getElem_mem hql); generalize jB (showW l[q]) = T at hr2 HC hTs; have hss2 : s.size ≤ 80001500 := by omega
   have hss3 : s.size + sep.size ≤ 80001503 := by omega
   have hss4 : s.size + sep.size + T.size ≤ 80161503 := by omega
   have hss5 : s.size + T.size ≤ 80161500 := by omega
   have HR2 := Z_ hr2; clear hr hr2 hcl hu hus; by_cases h0 : 0 < q
   ·have h0i : (0 : Int) < (q : Int) := by omega
    go_wp2_with fail
    refine HC.out.mono ?_
    rintro e w5 ⟨rfl, hE5⟩; have HE5 := Z_ (HE.out.ext hE5); clear hE5 HC HE q0 q1 q2 q3; go_wp2_with fail
    go_roundw
    case rel => exact ⟨q + 1, _, by omega, by go_num, rfl, by simp only [ByteArray.size_append]; omega, by have := HR2.out; rw [if_pos h0] at this; exact this, HE5⟩
    case measure => simp [intOf]; omega
   ·have h0i : ¬ (0 : Int) < (q : Int) := by omega
    go_wp2_with fail
    refine HC.out.mono ?_
    rintro e w5 ⟨rfl, hE5⟩; have HE5 := Z_ (HE.out.ext hE5); clear hE5 HC HE q0 q1 q2 q3; go_wp2_with fail
    go_roundw
    case rel => exact ⟨q + 1, _, by omega, by go_num, rfl, by simp only [ByteArray.size_append]; omega, by have := HR2.out; rw [if_neg h0] at this; exact this, HE5⟩
    case measure => simp [intOf]; omega
  ·obtain rfl : q = N := by omega
   have hT : s = R := by have := hr.out; rw [List.drop_of_length_le (by rw [HN.out]; exact Nat.le_refl _), lstS] at this; exact this
   subst hT; clear hr; go_wp2_with fail
   go_ret
   exact ⟨rfl, HE.out⟩
set_option maxRecDepth 100000 in
set_option maxHeartbeats 4000000 in
theorem round_any (l : List Nd) (hz : ∀ y ∈ l, ShC y) (a : Option Addr) (cc : Nat) (w : World) (hrow : AllIn 4 NgIn w a l) (hl : l.length ≤ 500) (hb : ∀ y ∈ l, (jB (showW y)).size ≤ 160000) :
  Calls Tryz.prog 178 #[.slice a l.length cc] w fun e w' => e = .returned (.string (if l.length = 0 then ⟨#[40, 32, 41]⟩ else (⟨#[40, 32]⟩ ++ lstS ⟨#[32, 44, 32]⟩ 0 l ⟨#[]⟩) ++ ⟨#[32, 41]⟩)) ∧ Ext w w' := by
 have HL := Z_ (list_any l hz ⟨#[32, 44, 32]⟩ a cc w hrow hl (by decide) hb); have hTs := lst_le ⟨#[32, 44, 32]⟩ (by decide) l 0 ⟨#[]⟩ hb; generalize lstS ⟨#[32, 44, 32]⟩ 0 l ⟨#[]⟩ = T at *; have hTs2 : T.size ≤ 80001500 := by have h9 : (⟨#[]⟩ : ByteArray).size = 0 := rfl; omega
 clear hTs; by_cases h0 : l.length = 0
 ·rw [if_pos h0]
  obtain rfl := List.length_eq_zero_iff.1 h0; clear HL hz hrow hb; go_enter Tryz.func178, Tryz.ntmps178
  go_wp2_with fail
  go_ret
  exact ⟨rfl, Chg.refl _ _⟩
 ·rw [if_neg h0]
  clear hb hz hrow; generalize l.length = N at *; have hd : ((N : Int) == 0) = false := by simpa using h0
  go_enter Tryz.func178, Tryz.ntmps178
  go_wp2_with fail
  refine HL.out.mono ?_
  rintro e w2 ⟨rfl, hE⟩; go_wp2_with fail
  go_ret
  exact ⟨rfl, hE⟩
set_option maxRecDepth 100000 in
set_option maxHeartbeats 4000000 in
theorem at_any (x : Nd) (hX : IsNd x) (hke : KdE x.kd) (hz : ShC x) (least : Int) (v : Value) (w : World) (hb : (jB (exP 0 x).2).size ≤ 160000) (hx : NgAt w x v) :
  Calls Tryz.prog 182 #[v, .int .i64 least] w fun e w' => e = .returned (.string (jB (exP least x).2)) ∧ Ext w w' := by
 have hsh : showW x = (exP 0 x).2 := by
  unfold KdE at hke; unfold showW; rw [if_neg (by omega), if_neg (by omega), if_neg (by omega), if_neg (by omega), if_neg (by omega), if_neg (by omega), if_neg (by omega)]
 have hnop : x.kd ≠ 19 → (exP least x).2 = (exP 0 x).2 := by
  intro h19; obtain ⟨kd, t, m, l⟩ := x; have hkid := hX.kids; have hf := hX.form; unfold KdE Nd.kd at hke; cases hf with
  | num h0 h1 => rw [w_num _ h0, w_num _ h0]
  | name ht => rw [w_name _ ht, w_name _ ht]
  | @item _ x ht hx2 => rw [w_item _ ht (ex_ok (hkid x (by simp)) hx2 0), w_item _ ht (ex_ok (hkid x (by simp)) hx2 0)]
  | call ht hl => rw [w_call _ ht fun y hy => ex_ok (hkid y hy) (hl y hy) 0, w_call _ ht fun y hy => ex_ok (hkid y hy) (hl y hy) 0]
  | neg hx => rw [w_neg, w_neg]
  | not_ hx => rw [w_not, w_not]
  | op _ _ _ _ => exact absurd rfl h19
  | _ => exact absurd hke (by simp)
 have hopc : x.kd = 19 → (exP least x).2 = if (signF x.nm).2 < least then sOpen :: ((exP 0 x).2 ++ [sClose]) else (exP 0 x).2 := by
  intro h19; obtain ⟨kd, t, m, l⟩ := x; have hkid := hX.kids; have hf := hX.form; have hk19 : kd = 19 := h19; subst hk19; cases hf with
  | @op _ x y h0 h1 hx2 hy =>
   rw [w_op _ h0 h1 (ex_ok (hkid x (by simp)) hx2 _), w_op _ h0 h1 (ex_ok (hkid x (by simp)) hx2 _)]; have := (sign_opOf h0 h1).2.2.2.2.2; rw [if_neg (show ¬ (signF m).2 < 0 by omega)]; rfl
 have hne : (exP 0 x).2 ≠ [] := by
  obtain ⟨w0, ws, e, -⟩ := ex_head x 0 (rng_of_is x hX) hX hke; rw [e]; simp
 obtain ⟨k, t, m, a, N, cc, rfl⟩ := ng_form hx
 have hkd : x.kd = k ∧ x.nm = m := by
  generalize x = z at hx; obtain ⟨kz, tz, mz, lz⟩ := z; rw [ngAt_mk] at hx; obtain ⟨az, cz, e, -⟩ := hx; injection e with e
  injection e with e
  injection e with e1 e
  injection e1 with _ e1
  injection e with _ e
  injection e with e2 _
  injection e2 with _ e2
  exact ⟨e1.symm, e2.symm⟩
 rw [hkd.1] at hnop hopc; rw [hkd.2] at hopc; have hX1 := (Chg.refl (fun _ => False) w).alloc (.cells #[.int .i64 k, .string t, .int .i64 m, .slice a N cc] 66); have HC := Z_ (hz _ _ (ng_ext2 hx hX1)); rw [hsh] at HC; have HA := Z_ (Blk.made w #[.int .i64 k, .string t, .int .i64 m, .slice a N cc] 66); have HX := Z_ hX1; obtain ⟨P, hP⟩ : ∃ P, w.heap.size = P := ⟨_, rfl⟩; rw [hP] at HA; have HNOP := Z_ hnop; have HOPC := Z_ hopc; have HNE := Z_ hne; have HSG := Z_ (signOf_any m); clear hx hX1 hnop hopc hne hz hkd hsh hX hke; generalize (exP 0 x).2 = E0 at *; generalize (exP least x).2 = EL at *; go_enter Tryz.func182, Tryz.ntmps182
 go_upto_region 1 with (fail)
 try rw [hP]
 generalize w.alloc (.cells #[.int .i64 k, .string t, .int .i64 m, .slice a N cc] 66) = w1 at *; clear hP; have q1 := HA.out.cell; go_wp2_with fail
 refine HC.out.mono ?_
 rintro e w2 ⟨rfl, hE2⟩; have HA2 := Z_ (HA.out.ext hE2); have HX2 := Z_ (HX.out.ext hE2); clear q1 HA HX hE2 HC; have q1 := HA2.out.cell; by_cases h19 : k = 19
 ·have hkt : (k == 19) = true := by simpa using h19
  have hop := HOPC.out h19; clear HNOP HOPC h19; generalize signF m = Z at *; obtain ⟨z1, z2⟩ := Z; simp only at HSG hop; have HOP := Z_ hop; clear hop; go_upto_region 3 with (fail)
  clear hkt; go_wp2_with fail
  refine (HSG.out w2).mono ?_
  rintro e w3 ⟨rfl, hE3⟩; by_cases hlt : z2 < least
  ·go_wp2_with fail
   go_ret
   refine ⟨?_, HX2.out.ext hE3⟩
   rw [HOP.out, if_pos hlt, jB_cons (by simp), jB_app HNE.out (by simp), jB_one]; refine congrArg (fun s => Ending.returned (.string s)) (ba_ext ?_)
   simp [sOpen, sClose, bl1]
  ·go_wp2_with fail
   go_ret
   refine ⟨?_, HX2.out.ext hE3⟩
   rw [HOP.out, if_neg (by omega)]; rfl
 ·have hkf : (k == 19) = false := by simpa using h19
  have hn := HNOP.out h19; subst hn; clear HNOP HOPC; go_wp2_with fail
  go_ret
  exact ⟨rfl, HX2.out⟩
set_option maxRecDepth 100000 in
set_option maxHeartbeats 4000000 in
theorem digits0_any (m : Int) (w : World) (h0 : 0 ≤ m) (h1 : m ≤ 9223372036854775807) :
  Calls Tryz.prog 239 #[.int .i64 m] w fun e w' => e = .returned (.string (digW m)) ∧ Ext w w' := by
 obtain ⟨n, rfl⟩ := Int.eq_ofNat_of_zero_le h0
 have hD : digW (n : Int) = ⟨(Lib.decDigits n).toArray⟩ := by
  unfold digW Lib.itoa; rw [if_neg (by omega)]; rfl
 rw [hD]; obtain ⟨R, hR⟩ : ∃ R, Lib.decDigits n = R := ⟨_, rfl⟩; rw [hR]; have hRl : R.length ≤ 19 := by rw [← hR]; exact dd_len n 19 (by decide) (by omega)
 have HR := Z_ hR; have hn0 : decide ((n : Int) < 0) = false := by simp
 clear hR hD; go_enter Tryz.func239, Tryz.ntmps239
 go_wp2_with fail
 go_loopw [3, 4] (fun sv lv wr => ∃ (s : ByteArray) (q : Nat), sv = .string s ∧ lv = .int .i64 q ∧ q ≤ n ∧ Hid (Lib.decDigits q ++ s.data.toList = R) ∧ Hid (Ext w wr)) (fun _ lv _ => (intOf lv).toNat)
 case atStart => exact ⟨_, n, rfl, rfl, Nat.le_refl _, Z_ (by rw [HR.out]; simp), Chg.refl _ _⟩
 case round =>
  obtain ⟨s, q, rfl, rfl, hq, hr, HE⟩ := hrel; have hm1 : (q : Int).tmod 10 = ((q % 10 : Nat) : Int) := by rw [Int.tmod_eq_emod_of_nonneg (by omega)]; rfl
  have hm2 : (q : Int).tdiv 10 = ((q / 10 : Nat) : Int) := by rw [Int.tdiv_eq_ediv_of_nonneg (by omega)]; rfl
  obtain ⟨d, hd⟩ : ∃ d, q % 10 = d := ⟨_, rfl⟩; obtain ⟨q2, hq2⟩ : ∃ d, q / 10 = d := ⟨_, rfl⟩; have hd10 : d < 10 := by omega
  rw [hd] at hm1; rw [hq2] at hm2; have HD := Z_ hd; have HQ := Z_ hq2; have hdn : decide ((d : Int) < 0) = false := by simp
  have hw8 : IntKind.i64.wrap (48 + (d : Int)) = ((48 + d : Nat) : Int) := by rw [wrap_small _ (by omega) (by omega)]; rfl
  have hb8 : (48 + (d : Int)) = (([UInt8.ofNat (48 + d)][0]).toNat : Int) := by rw [List.getElem_cons_zero, dig_nat hd10]; rfl
  have hcv : (convert 59 9 (.slice (some ⟨wr.heap.size, 0, none⟩) 1 1)).run Tryz.prog (wr.alloc (.cells #[.int .u8 (48 + (d : Int))] 5)) = .ok (.string ⟨[UInt8.ofNat (48 + d)].toArray⟩) (wr.alloc (.cells #[.int .u8 (48 + (d : Int))] 5)) := by
   refine run_convert_bytes_back (wr.alloc (.cells #[.int .u8 (48 + (d : Int))] 5)) 59 9 5 ⟨wr.heap.size, 0, none⟩ 1 [UInt8.ofNat (48 + d)] Tryz.underlying59 Tryz.underlying5 Tryz.underlying9 fun j hj => ?_
   obtain rfl : j = 0 := by simpa using hj
   rw [← hb8]; exact (Blk.made wr #[.int .u8 (48 + (d : Int))] 5).cell 0
  have hss : s.size ≤ 19 := by
   have h9 := congrArg List.length hr.out; rw [List.length_append] at h9; have h8 : s.data.toList.length = s.size := by rw [Array.length_toList]; rfl
   omega
  have hadd : UInt8.ofNat (48 + d) = 48 + UInt8.ofNat d := by simp
  have HADD := Z_ hadd; clear hd hq2 hb8 hadd; go_upto_region 7 with (fail)
  by_cases h0 : q2 = 0
  ·subst h0
   have hT : (⟨#[48 + UInt8.ofNat d]⟩ : ByteArray) ++ s = ⟨R.toArray⟩ := by
    refine ba_ext ?_
    have h9 := hr.out; rw [Lib.decDigits, dif_pos (by have := HQ.out; omega)] at h9; rw [← h9, ← HADD.out]; have : q = d := by have := HQ.out; have := HD.out; omega
    subst this; simp
   go_wp2_with fail
   go_ret
   exact ⟨by rw [← hT]; rfl, HE.out.alloc _⟩
  ·have hq0 : ((q2 : Int) == 0) = false := by simpa using h0
   have hq2n : q2 ≤ n := by have := HQ.out; omega
   have hwq : wrap64 (q2 : Int) = (q2 : Int) := by unfold wrap64; omega
   have hwq2 : IntKind.i64.wrap (q2 : Int) = (q2 : Int) := wrap_small _ (by omega) (by omega); go_wp2_with fail
   go_roundw
   case rel =>
    refine ⟨_, q2, rfl, rfl, by have := HQ.out; omega, Z_ ?_, HE.out.alloc _⟩
    have h9 := hr.out; rw [Lib.decDigits, dif_neg (by have := HQ.out; omega), HQ.out, HD.out, HADD.out] at h9; rw [← h9]; simp
   case measure => simp [intOf]; have := HQ.out; omega
set_option maxRecDepth 100000 in
theorem digits_any (m : Int) (w : World) (h0 : 0 ≤ m) (h1 : m ≤ 9223372036854775807) :
  Calls Tryz.prog 180 #[.int .i64 m] w fun e w' => e = .returned (.string (digW m)) ∧ Ext w w' := by
 have HC := Z_ (digits0_any m w h0 h1); go_enter Tryz.func180, Tryz.ntmps180
 go_wp2_with fail
 refine HC.out.mono ?_
 rintro e w2 ⟨rfl, hE⟩; go_wp2_with fail
 go_ret
 exact ⟨rfl, hE⟩
end rpr
end Go.Proofs.YtpcihajmcejliabGreatDoor
