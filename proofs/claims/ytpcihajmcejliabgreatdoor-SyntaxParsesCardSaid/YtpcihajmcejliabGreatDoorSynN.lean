/- The walk of the program's parser: name, whole, number. -/
import Derived.Test.YtpcihajmcejliabGreatDoorSynA
import Derived.Test.YtpcihajmcejliabGreatDoorNameA
namespace Go.Proofs.YtpcihajmcejliabGreatDoor
open Go.RowKit
namespace synw
set_option maxRecDepth 100000 in
set_option maxHeartbeats 1000000 in
theorem name_any {W w : World} {S E : Nat} {l : List Tk} (h : PrAt W w S E l) (hm : MaxVar W) :
    Calls Tryz.prog 150 #[.pointer (some ⟨S, 0, none⟩)] w (Pst VStr W w S E (pName l)) := by
  have HC := Lib.hid (peek_any h)
  have HFA := Lib.hid (fun (u : World) (hE : Ext w u) => fail_any (h.extend hE))
  have HP := Lib.hid (fun (u : World) (hE : Ext w u) => h.extend hE)
  have HM := Lib.hid (fun (u : World) (hE : Ext w u) => hm.ext (h.ext.ext hE))
  cases l with
  | nil =>
    have HT := Lib.hid (show pName [] = .bad [] from rfl)
    generalize pName [] = T at *
    simp only [hdTk] at HC
    clear h HP HM
    go_enter Tryz.func150, Tryz.ntmps150
    go_wp2_with fail
    refine HC.out.mono ?_
    rintro e w1 ⟨rfl, hE⟩
    unfold tkV
    have hE2 := hE.alloc (.cells #[.int .i64 0, .string ⟨#[]⟩, .int .i64 E] 163)
    have HE2 := Lib.hid hE2
    have HF := Lib.hid (HFA.out _ hE2)
    go_wp2_with fail
    refine HF.out.mono ?_
    rintro e w2 ⟨rfl, hE3⟩
    go_wp2_with fail
    exact ⟨rfl, Pst.fails (ext_at (HE2.out.ext hE3) S) HT.out⟩
  | cons t r =>
    have ho := pr_ok h
    obtain ⟨tk, tt, ta⟩ := t
    simp only [hdTk] at HC
    have HT := Lib.hid (show pName (⟨tk, tt, ta⟩ :: r) = if tk = 1 ∧ reservedL.contains tt.data.toList = false then .got tt r else .bad (⟨tk, tt, ta⟩ :: r) from rfl)
    generalize pName (⟨tk, tt, ta⟩ :: r) = T at *
    by_cases hk : tk = 1
    · subst hk
      have hw := ho.word rfl
      have hs := ho.size
      simp only at hw hs
      have hcw := name.contains_words _ hw
      obtain ⟨R, hR⟩ : ∃ R, reservedL.contains tt.data.toList = R := ⟨_, rfl⟩
      rw [hR] at hcw
      have HCW := Lib.hid hcw
      have HT2 := Lib.hid (show T = if R = false then .got tt r else .bad (⟨1, tt, ta⟩ :: r) by have := HT.out; rw [hR] at this; simpa using this)
      have HSZ := Lib.hid hs
      clear h hw hcw hR HT ho
      go_enter Tryz.func150, Tryz.ntmps150
      go_wp2_with fail
      refine HC.out.mono ?_
      rintro e w1 ⟨rfl, hE⟩
      unfold tkV
      have hA := Blk.made w1 #[.int .i64 1, .string tt, .int .i64 ta] 163
      have hE2 := hE.alloc (.cells #[.int .i64 1, .string tt, .int .i64 ta] 163)
      obtain ⟨m, hm2⟩ := HM.out _ hE2
      have hsub : ((⟨#[32]⟩ : ByteArray) ++ tt ++ ⟨#[32]⟩).data.toList = 32 :: (tt.data.toList ++ [32]) := by simp [ByteArray.data_append]
      have cc := Tryz.strings_Contains ⟨#[32, 100, 111, 32, 101, 108, 115, 101, 32, 103, 105, 118, 101, 115, 32, 104, 105, 103, 104, 32, 105, 102, 32, 105, 109, 112, 111, 114, 116, 32, 105, 110, 32, 108, 111, 119, 32, 109, 111, 100, 117, 108, 101, 32, 111, 117, 116, 32, 112, 114, 111, 99, 32, 112, 117, 98, 32, 114, 101, 116, 117, 114, 110, 32, 119, 104, 105, 108, 101, 32]⟩ ((⟨#[32]⟩ : ByteArray) ++ tt ++ ⟨#[32]⟩) m _ (by decide) hm2
      rw [hsub] at cc
      have CC := Lib.hid cc
      have HE2 := Lib.hid hE2
      have HA := Lib.hid hA
      clear cc hm2 hsub hE hE2 hA
      go_wp2_with fail
      refine CC.out.mono ?_
      rintro e w' ⟨rfl, rfl⟩
      rw [HCW.out]
      cases R with
      | true =>
        have HF := Lib.hid (HFA.out _ HE2.out)
        go_wp2_with fail
        refine HF.out.mono ?_
        rintro e w2 ⟨rfl, hE3⟩
        go_wp2_with fail
        exact ⟨rfl, Pst.fails (ext_at (HE2.out.ext hE3) S) (by simpa using HT2.out)⟩
      | false =>
        obtain ⟨k, hk, hk2, hP2⟩ := pr_step (HP.out _ HE2.out)
        obtain ⟨a', n', c', k', hB, -, -⟩ := pr_blk (HP.out _ HE2.out)
        have hSne : w1.heap.size ≠ S := by have := (HP.out _ HE2.out).lt; have h7 := HA.out.lt; intro e; subst e; have := HA.out.cell 1; rw [hk] at this; cases this
        have hf := hB.frozen 1
        have hSl := hB.lt
        have hA2 := HA.out.setOther (p := ⟨S, 1, none⟩) hSne (.int .i64 ((k : Int) + 1))
        have hc1 := hA2.cell 1
        have hkw : IntKind.i64.wrap ((k : Int) + 1) = (k : Int) + 1 := by unfold IntKind.wrap; simp only [IntKind.bits, IntKind.signed]; simp; omega
        have HP2 := Lib.hid hP2
        clear hP2 hB hA2
        go_wp2_with fail
        go_ret
        exact Pst.reads (chg_set (ext_at HE2.out S) 1 _) (by simpa using HT2.out) ⟨rfl, by have := HSZ.out; omega⟩ HP2.out
    · have hk2 : (tk != 1) = true := by simpa using hk
      have HT2 := Lib.hid (show T = .bad (⟨tk, tt, ta⟩ :: r) by have := HT.out; rw [if_neg (fun h => hk h.1)] at this; exact this)
      clear h HP HM HT ho
      go_enter Tryz.func150, Tryz.ntmps150
      go_wp2_with fail
      refine HC.out.mono ?_
      rintro e w1 ⟨rfl, hE⟩
      unfold tkV
      have hE2 := hE.alloc (.cells #[.int .i64 tk, .string tt, .int .i64 ta] 163)
      have HE2 := Lib.hid hE2
      have HF := Lib.hid (HFA.out _ hE2)
      go_wp2_with fail
      refine HF.out.mono ?_
      rintro e w2 ⟨rfl, hE3⟩
      go_wp2_with fail
      exact ⟨rfl, Pst.fails (ext_at (HE2.out.ext hE3) S) HT2.out⟩
theorem pName_ne (l : List Tk) : pName l ≠ .out := by
  cases l with
  | nil => intro h; cases h
  | cons t r =>
    simp only [pName, ne_eq]
    split <;> simp
theorem pNeed_ne (s : ByteArray) (l : List Tk) : pNeed s l ≠ .out := by unfold pNeed; split <;> intro h <;> cases h
theorem pLabel_ne (l : List Tk) : pLabel l ≠ .out := by
  unfold pLabel
  split
  · intro h; cases h
  · unfold pNeed; split <;> intro h <;> cases h
theorem pWhole_ne (l : List Tk) : pWhole l ≠ .out := by
  unfold pWhole
  intro h
  cases hn : pName l with
  | out => exact pName_ne _ hn
  | bad l2 => rw [hn] at h; cases h
  | got s l2 =>
    rw [hn] at h
    simp only [Out.bind] at h
    split at h
    · cases hn2 : pName l2.tail with
      | out => exact pName_ne _ hn2
      | bad l3 => rw [hn2] at h; cases h
      | got s3 l3 => rw [hn2] at h; cases h
    · cases h
theorem pName_size {l r : List Tk} {s : ByteArray} {W w : World} {S E : Nat} (hP : PrAt W w S E l) (h : pName l = .got s r) : s.size ≤ 3000 := by
  cases l with
  | nil => cases h
  | cons t q =>
    simp only [pName] at h
    split at h
    · injection h with h1 h2
      subst h1; exact (pr_ok hP).size
    · cases h
set_option maxRecDepth 100000 in
set_option maxHeartbeats 1000000 in
theorem whole_any {W w : World} {S E : Nat} {l : List Tk} (h : PrAt W w S E l) (hm : MaxVar W) :
    Calls Tryz.prog 325 #[.pointer (some ⟨S, 0, none⟩)] w (Pst VStr W w S E (pWhole l)) := by
  have HC := Lib.hid (name_any h hm)
  have HM := Lib.hid hm
  have HSZ := Lib.hid (fun s r => pName_size (s := s) (r := r) h)
  obtain ⟨T, hT⟩ : ∃ T, pWhole l = T := ⟨_, rfl⟩
  rw [hT]
  unfold pWhole at hT
  have HT := Lib.hid hT
  clear h hm hT
  go_enter Tryz.func325, Tryz.ntmps325
  go_wp2_with fail
  refine HC.out.mono ?_
  rintro e w1 hr
  obtain ⟨hC1, ⟨l1, hp, rfl⟩ | ⟨s, l1, v, hp, rfl, ⟨rfl, hs⟩, hP1⟩⟩ := hr.cases (pName_ne l)
  · have HF := Lib.hid (Out.bind_bad HT.out hp)
    have HC1 := Lib.hid hC1
    clear hr hp hC1
    go_wp2_with fail
    exact ⟨rfl, Pst.fails HC1.out HF.out⟩
  · have HT1 := Lib.hid (Out.bind_got HT.out hp)
    have hsz := HSZ.out _ _ hp
    have HC1 := Lib.hid hC1
    have HH := Lib.hid (have_any hP1 sDot)
    clear hr hp hC1 HC HT HSZ hP1
    generalize isB l1 [sDot] = R at *
    go_wp2_with fail
    refine HH.out.mono ?_
    rintro e w2 ⟨rfl, hC2, hP2⟩
    have HC2 := Lib.hid (HC1.out.then hC2)
    cases R with
    | false =>
      have HP2 := Lib.hid (show PrAt W w2 S E l1 by simpa using hP2)
      have HF := Lib.hid (show T = .got s l1 by have := HT1.out; simpa using this.symm)
      clear hP2 hC2
      go_wp2_with fail
      go_ret
      exact Pst.reads HC2.out HF.out ⟨rfl, by omega⟩ HP2.out
    | true =>
      have hP3 : PrAt W w2 S E l1.tail := by simpa using hP2
      have HT2 := Lib.hid (show (pName l1.tail).bind (fun t l => .got (s ++ (sDot ++ t)) l) = T by have := HT1.out; simpa using this)
      have HN := Lib.hid (name_any hP3 HM.out)
      have HSZ := Lib.hid (fun s r => pName_size (s := s) (r := r) hP3)
      clear hP2 hP3 hC2
      go_wp2_with fail
      refine HN.out.mono ?_
      rintro e w3 hr
      obtain ⟨hC3, ⟨l3, hp, rfl⟩ | ⟨s3, l3, v, hp, rfl, ⟨rfl, hs3⟩, hP3⟩⟩ := hr.cases (pName_ne l1.tail)
      · have HF := Lib.hid (Out.bind_bad HT2.out hp)
        have HC3 := Lib.hid (HC2.out.then hC3)
        clear hr hp hC3
        go_wp2_with fail
        exact ⟨rfl, Pst.fails HC3.out HF.out⟩
      · have HF := Lib.hid (Out.bind_got HT2.out hp)
        have hsz3 := HSZ.out _ _ hp
        have HC3 := Lib.hid (HC2.out.then hC3)
        have HP3 := Lib.hid hP3
        have hz1 : ((⟨#[46]⟩ : ByteArray) ++ s3).size = 1 + s3.size := by rw [ByteArray.size_append]; rfl
        have hz2 : (s ++ ((⟨#[46]⟩ : ByteArray) ++ s3)).size = s.size + (1 + s3.size) := by rw [ByteArray.size_append, hz1]
        have HZ := Lib.hid hz2
        clear hr hp hC3 hP3 hz2
        go_wp2_with fail
        go_ret
        exact Pst.reads HC3.out HF.out.symm ⟨rfl, by show (s ++ ((⟨#[46]⟩ : ByteArray) ++ s3)).size ≤ 7000; rw [HZ.out]; omega⟩ HP3.out
set_option maxRecDepth 100000 in
set_option maxHeartbeats 1000000 in
theorem number_any {W w : World} {S E : Nat} {l : List Tk} (h : PrAt W w S E l) :
    Calls Tryz.prog 225 #[.pointer (some ⟨S, 0, none⟩)] w (Pst (fun x v w' => NdAt (hide (below w.heap.size) w') x v) W w S E (pNumber l)) := by
  have hX0 := (Chg.refl (fun _ => False) w).alloc (.cells #[.int .i64 0, .string ⟨#[]⟩, .int .i64 0, .slice none 0 0] 66)
  have HA := Lib.hid (Blk.made w #[.int .i64 0, .string ⟨#[]⟩, .int .i64 0, .slice none 0 0] 66)
  have HC := Lib.hid (peek_any (h.extend hX0))
  have HFA := Lib.hid (fun (u : World) (hE : Ext w u) => fail_any (h.extend hE))
  have HP := Lib.hid (fun (u : World) (hE : Ext w u) => h.extend hE)
  have HX0 := Lib.hid hX0
  have hSw := h.lt
  have hWw := h.ext.size
  cases l with
  | nil =>
    have HT := Lib.hid (show pNumber [] = .bad [] from rfl)
    generalize pNumber [] = T at *
    simp only [hdTk] at HC
    clear h HP hX0
    go_enter Tryz.func225, Tryz.ntmps225
    go_wp2_with fail
    refine HC.out.mono ?_
    rintro e w1 ⟨rfl, hE⟩
    unfold tkV
    have hE2 := (HX0.out.ext hE).alloc (.cells #[.int .i64 0, .string ⟨#[]⟩, .int .i64 E] 163)
    have HE2 := Lib.hid hE2
    have HF := Lib.hid (HFA.out _ hE2)
    clear hE hE2
    go_wp2_with fail
    refine HF.out.mono ?_
    rintro e w2 ⟨rfl, hE3⟩
    go_wp2_with fail
    exact ⟨rfl, Pst.fails (ext_at (HE2.out.ext hE3) S) HT.out⟩
  | cons t r =>
    have ho := pr_ok h
    obtain ⟨tk, tt, ta⟩ := t
    simp only [hdTk] at HC
    have HT := Lib.hid (show pNumber (⟨tk, tt, ta⟩ :: r) = if tk = 2 then .got (.mk 15 noText (valOf tt) []) r else .bad (⟨tk, tt, ta⟩ :: r) from rfl)
    generalize pNumber (⟨tk, tt, ta⟩ :: r) = T at *
    by_cases hk : tk = 2
    · subst hk
      obtain ⟨hd1, hd2, hd3⟩ := ho.num rfl
      have hs := ho.size
      simp only at hd1 hd2 hd3 hs
      have hpi := int_digits _ hd1 hd2
      rw [if_pos hd3] at hpi
      have HPI := Lib.hid hpi
      have HT2 := Lib.hid (show T = .got (.mk 15 noText (valOf tt) []) r by have := HT.out; simpa using this)
      clear h hd1 hd2 hd3 hpi HT ho hX0
      go_enter Tryz.func225, Tryz.ntmps225
      go_wp2_with fail
      refine HC.out.mono ?_
      rintro e w1 ⟨rfl, hE⟩
      unfold tkV
      have hA := Blk.made w1 #[.int .i64 2, .string tt, .int .i64 ta] 163
      have hE2 := (HX0.out.ext hE).alloc (.cells #[.int .i64 2, .string tt, .int .i64 ta] 163)
      have hR2 := (HA.out.ext hE).alloc (.cells #[.int .i64 2, .string tt, .int .i64 ta] 163)
      obtain ⟨k, hk, hk2, hP2⟩ := pr_step (HP.out _ hE2)
      obtain ⟨a', n', c', k', hB, -, -⟩ := pr_blk (HP.out _ hE2)
      have hw1 := (HX0.out.ext hE).size
      have hSne : w1.heap.size ≠ S := by omega
      have hf := hB.frozen 1
      have hSl := hB.lt
      have hA2 := hA.setOther (p := ⟨S, 1, none⟩) hSne (.int .i64 ((k : Int) + 1))
      have hR3 := hR2.setOther (p := ⟨S, 1, none⟩) (by show w.heap.size ≠ S; omega) (.int .i64 ((k : Int) + 1))
      have hc1 := hA2.cell 1
      have hkw : IntKind.i64.wrap ((k : Int) + 1) = (k : Int) + 1 := by unfold IntKind.wrap; simp only [IntKind.bits, IntKind.signed]; simp; omega
      have HP2 := Lib.hid hP2
      have HE3 := Lib.hid (chg_set (ext_at hE2 S) 1 (.int .i64 ((k : Int) + 1)))
      have HR3 := Lib.hid hR3
      clear hP2 hB hA2 hA hE hE2 hR2 hR3
      go_wp2_with fail
      generalize (w1.alloc (.cells #[.int .i64 2, .string tt, .int .i64 ta] 163)).setCell ⟨S, 1, none⟩ (.int .i64 ((k : Int) + 1)) = w9 at *
      refine (Tryz.strconv_ParseInt_10_at64_ok tt (by omega) _ HPI.out _).mono ?_
      rintro e w2 ⟨rfl, hw2⟩
      have hE4 : Ext w9 w2 := by
        rcases hw2 with rfl | ⟨t, rfl⟩
        · exact Chg.refl _ _
        · exact lex.bytes_ext _ _ _
      have HE4 := Lib.hid hE4
      clear hw2 hE4
      have hR4 := HR3.out.ext HE4.out
      have hP4 := HP2.out.extend HE4.out
      have hC4 := HE3.out.ext HE4.out
      clear HE4 HR3 HP2 HE3 hk hf hc1 hSl
      have HR4 := Lib.hid hR4
      have HP4 := Lib.hid hP4
      have HC4 := Lib.hid hC4
      clear hR4 hP4 hC4
      have HV := Lib.hid (show valOf tt = ((decFrom 0 tt.data.toList : Nat) : Int) from rfl)
      obtain ⟨V, hV⟩ : ∃ V : Int, ((decFrom 0 tt.data.toList : Nat) : Int) = V := ⟨_, rfl⟩
      rw [hV] at HV ⊢
      clear hV
      go_wp2_with fail
      refine (node_any _ _ _ _ _ _ _).mono ?_
      rintro e w3 ⟨rfl, hE5⟩
      have hR5 := HR4.out.ext hE5
      have HP5 := Lib.hid (HP4.out.extend hE5)
      have HC5 := Lib.hid (HC4.out.ext hE5)
      have HR5 := Lib.hid hR5
      have hc5 := hR5.cell
      have hf5 := hR5.frozen
      have hl5 := hR5.lt
      clear hE5 hR5
      go_wp2_with fail
      refine ends_at rfl rfl rfl ((((HR5.out.set 0 _).set 1 _).set 2 _).set 3 _) Tryz.underlying66 rfl (by kernel_rfl) ?_
      exact Pst.reads ((((HC5.out.setNew (p := ⟨w.heap.size, 0, none⟩) (by simp) _).setNew (p := ⟨w.heap.size, 1, none⟩) (by simp) _).setNew (p := ⟨w.heap.size, 2, none⟩) (by simp) _).setNew (p := ⟨w.heap.size, 3, none⟩) (by simp) _)
        (x := .mk 15 noText V []) (l := r) (by rw [← HV.out]; exact HT2.out) (ndAt_leaf _ _ _ _ (by decide)) ((((HP5.out.setFar (p := ⟨w.heap.size, 0, none⟩) (by simp; omega) (by simp; omega) _).setFar (p := ⟨w.heap.size, 1, none⟩) (by simp; omega) (by simp; omega) _).setFar (p := ⟨w.heap.size, 2, none⟩) (by simp; omega) (by simp; omega) _).setFar (p := ⟨w.heap.size, 3, none⟩) (by simp; omega) (by simp; omega) _)
    · have hk2 : (tk != 2) = true := by simpa using hk
      have HT2 := Lib.hid (show T = .bad (⟨tk, tt, ta⟩ :: r) by have := HT.out; rw [if_neg hk] at this; exact this)
      clear h HP HT ho hX0
      go_enter Tryz.func225, Tryz.ntmps225
      go_wp2_with fail
      refine HC.out.mono ?_
      rintro e w1 ⟨rfl, hE⟩
      unfold tkV
      have hE2 := (HX0.out.ext hE).alloc (.cells #[.int .i64 tk, .string tt, .int .i64 ta] 163)
      have HE2 := Lib.hid hE2
      have HF := Lib.hid (HFA.out _ hE2)
      clear hE hE2
      go_wp2_with fail
      refine HF.out.mono ?_
      rintro e w2 ⟨rfl, hE3⟩
      go_wp2_with fail
      exact ⟨rfl, Pst.fails (ext_at (HE2.out.ext hE3) S) HT2.out⟩
end synw
end Go.Proofs.YtpcihajmcejliabGreatDoor
