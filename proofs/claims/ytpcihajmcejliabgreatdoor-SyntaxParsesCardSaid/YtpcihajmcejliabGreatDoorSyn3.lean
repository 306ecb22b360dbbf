/- The walk of the program's parser: unary. -/
import Derived.Test.YtpcihajmcejliabGreatDoorSyn2
namespace Go.Proofs.YtpcihajmcejliabGreatDoor
open Go.RowKit
namespace synw
set_option maxRecDepth 100000 in
set_option maxHeartbeats 4000000 in
theorem unary_any {n : Nat} (ih : ∀ m, m ≤ n → Good m) {W w : World} {S E : Nat} {l : List Tk} (h : PrAt W w S E l) (hm : MaxVar W) (hne : prs (n + 1) (.unary) l ≠ .out) :
    Calls Tryz.prog 363 #[.pointer (some ⟨S, 0, none⟩)] w (Pst (VN w.heap.size) W w S E (prs (n + 1) (.unary) l)) := by
  obtain ⟨T, hT⟩ : ∃ T, prs (n + 1) (.unary) l = T := ⟨_, rfl⟩
  rw [hT] at hne ⊢
  simp only [prs] at hT
  have HT := Lib.hid hT
  have HNE := Lib.hid hne
  have HM := Lib.hid hm
  have HAT : Hid (At W w (w.alloc (.cells #[.int .i64 0, .string ⟨#[]⟩, .int .i64 0, .slice none 0 0] 66)) S E w.heap.size l) := Lib.hid (At.start h)
  obtain ⟨A, hA⟩ : ∃ A, w.heap.size = A := ⟨_, rfl⟩
  rw [hA] at HAT
  have hSA : S < A := by have := h.lt; omega
  clear h hm hne hT
  go_enter Tryz.func363, Tryz.ntmps363
  go_upto_region 1 with (fail)
  generalize w.alloc (.cells #[.int .i64 0, .string ⟨#[]⟩, .int .i64 0, .slice none 0 0] 66) = u0 at *
  have HH := Lib.hid (have_any HAT.out.pr sMinus)
  have HLE := Lib.hid (fun (h : isB l [sMinus] = true) => synm.tail_lt h)
  generalize isB l [sMinus] = R at *
  go_wp2_with fail
  refine HH.out.mono ?_
  rintro e u1 ⟨rfl, hC, hP⟩
  cases R with
  | false =>
    replace hP : PrAt W u1 S E l := by simpa using hP
    have HT0 := HT.out
    clear HT
    simp only [Bool.false_eq_true, ↓reduceIte] at HT0
    have HT := Lib.hid HT0
    clear HT0
    replace HAT := Lib.hid (HAT.out.call hC hP)
    clear hC hP HH HLE
    have HH := Lib.hid (have_any HAT.out.pr sNot)
    have HLE := Lib.hid (fun (h : isB l [sNot] = true) => synm.tail_lt h)
    generalize isB l [sNot] = R at *
    go_wp2_with fail
    refine HH.out.mono ?_
    rintro e u2 ⟨rfl, hC, hP⟩
    cases R with
    | false =>
      replace hP : PrAt W u2 S E l := by simpa using hP
      have HT0 := HT.out
      clear HT
      simp only [Bool.false_eq_true, ↓reduceIte] at HT0
      have HT := Lib.hid HT0
      clear HT0
      replace HAT := Lib.hid (HAT.out.call hC hP)
      clear hC hP HH HLE
      have HH := Lib.hid (is_any (HAT.out.pr.alloc (.cells #[.string sOpen] 9)) u2.heap.size [sOpen] 1 1 rfl (by decide) (fun j hj => by
        obtain rfl : j = 0 := by simpa using hj
        exact (Blk.made u2 #[.string sOpen] 9).cell 0) (by simp))
      have hEx := (Chg.refl (fun _ => False) u2).alloc (.cells #[.string sOpen] 9)
      replace HAT := Lib.hid (HAT.out.extend hEx)
      clear hEx
      generalize isB l [sOpen] = R at *
      go_wp2_with fail
      refine HH.out.mono ?_
      rintro e u3 ⟨rfl, hE⟩
      replace HAT := Lib.hid (HAT.out.extend hE)
      clear hE HH
      cases R with
      | false =>
        have HT0 := HT.out
        clear HT
        simp only [Bool.false_eq_true, ↓reduceIte] at HT0
        have HT := Lib.hid HT0
        clear HT0
        have HH := Lib.hid (peek_any HAT.out.pr)
        have hk := hd_kind E l
        generalize hdTk E l = tk0 at HH hk
        obtain ⟨tk, tt, ta⟩ := tk0
        simp only at hk
        unfold tkV at HH
        go_wp2_with fail
        refine HH.out.mono ?_
        rintro e u4 ⟨rfl, hE⟩
        replace HAT := Lib.hid (HAT.out.extend hE)
        have hfi := field_kind (.int .i64 tk) (.string tt) (.int .i64 ta) u4
        rw [← hk] at HT
        clear hE HH hk
        by_cases hk2 : tk = 2
        · subst hk2
          have HT0 := HT.out
          clear HT
          simp only [↓reduceIte] at HT0
          have HT := Lib.hid HT0
          clear HT0
          have HAT0 := HAT.out.lt
          obtain ⟨B, hB⟩ : ∃ B, u4.heap.size = B := ⟨_, rfl⟩
          rw [hB] at HAT0
          have HN := Lib.hid (number_any HAT.out.pr)
          go_wp2_with fail
          refine HN.out.mono ?_
          rintro e u5 hr
          obtain ⟨hC, ⟨lb, hp, rfl⟩ | ⟨x, l5, v, hp, rfl, hv, hP⟩⟩ := hr.cases (by rw [HT.out]; exact HNE.out)
          · have HF := Lib.hid (HT.out.symm.trans hp)
            have HC := Lib.hid (HAT.out.chg.then hC)
            clear hr hp hC
            go_wp2_with fail
            exact ⟨rfl, Pst.fails HC.out HF.out⟩
          replace HT := Lib.hid (HT.out.symm.trans hp)
          replace HAT := Lib.hid (HAT.out.call hC hP)
          obtain ⟨ka, ta, ma, aa, na, ca, rfl⟩ := nd_form hv
          have HV := Lib.hid (show VN _ _ _ _ from hv)
          clear hr hp hC hP hv HN
          rw [hB] at HV
          have r0 := HAT.out.res.cell
          have rf := HAT.out.res.frozen
          have rl := HAT.out.res.lt
          unfold zeroNd at r0
          go_wp2_with fail
          refine ends_at rfl rfl rfl ((((HAT.out.res.set 0 _).set 1 _).set 2 _).set 3 _) Tryz.underlying66 rfl (by kernel_rfl) ?_
          exact ret_value HAT.out (below B) (HV.out) (below_yes (by omega)) (fun i hi => below_yes (by omega)) (HT.out)
        · have HT0 := HT.out
          clear HT
          simp only [if_neg hk2] at HT0
          have HT := Lib.hid HT0
          clear HT0
          have hk3 : (tk == 2) = false := by simpa using hk2
          have HN := Lib.hid (whole_any HAT.out.pr HM.out)
          go_wp2_with fail
          refine HN.out.mono ?_
          rintro e u6 hr
          obtain ⟨hC, ⟨lb, hp, rfl⟩ | ⟨s6, l6, v, hp, rfl, ⟨rfl, hs⟩, hP⟩⟩ := hr.cases (pWhole_ne _)
          · have HF := Lib.hid (Out.bind_bad HT.out hp)
            have HC := Lib.hid (HAT.out.chg.then hC)
            clear hr hp hC
            go_wp2_with fail
            exact ⟨rfl, Pst.fails HC.out HF.out⟩
          replace HT := Lib.hid (Out.bind_got HT.out hp)
          replace HAT := Lib.hid (HAT.out.call hC hP)
          have HSZ := Lib.hid hs
          clear hr hp hC hP HN
          clear hs
          have HH := Lib.hid (is_any (HAT.out.pr.alloc (.cells #[.string sOpen] 9)) u6.heap.size [sOpen] 1 1 rfl (by decide) (fun j hj => by
            obtain rfl : j = 0 := by simpa using hj
            exact (Blk.made u6 #[.string sOpen] 9).cell 0) (by simp))
          have hEx := (Chg.refl (fun _ => False) u6).alloc (.cells #[.string sOpen] 9)
          replace HAT := Lib.hid (HAT.out.extend hEx)
          clear hEx
          generalize isB l6 [sOpen] = R at *
          go_wp2_with fail
          refine HH.out.mono ?_
          rintro e u7 ⟨rfl, hE⟩
          replace HAT := Lib.hid (HAT.out.extend hE)
          clear hE HH
          cases R with
          | false =>
            have HT0 := HT.out
            clear HT
            simp only [Bool.false_eq_true, ↓reduceIte] at HT0
            have HT := Lib.hid HT0
            clear HT0
            have HAT0 := HAT.out.lt
            obtain ⟨B, hB⟩ : ∃ B, u7.heap.size = B := ⟨_, rfl⟩
            rw [hB] at HAT0
            have HN := Lib.hid (ih n (Nat.le_refl _) (.place s6) _ _ HAT.out.pr HM.out rfl HSZ.out (by rw [HT.out]; exact HNE.out))
            go_wp2_with fail
            refine HN.out.mono ?_
            rintro e u8 hr
            obtain ⟨hC, ⟨lb, hp, rfl⟩ | ⟨x8, l8, v8, hp, rfl, hv, hP⟩⟩ := hr.cases (by rw [HT.out]; exact HNE.out)
            · have HF := Lib.hid (HT.out.symm.trans hp)
              have HC := Lib.hid (HAT.out.chg.then hC)
              clear hr hp hC
              go_wp2_with fail
              exact ⟨rfl, Pst.fails HC.out HF.out⟩
            replace HT := Lib.hid (HT.out.symm.trans hp)
            replace HAT := Lib.hid (HAT.out.call hC hP)
            obtain ⟨ka8, ta8, ma8, aa8, na8, ca8, rfl⟩ := nd_form hv
            have HV8 := Lib.hid hv
            have hsz8 : u7.heap.size ≤ u8.heap.size := hC.size
            clear hr hp hC hP hv HN
            rw [hB] at HV8
            have r0 := HAT.out.res.cell
            have rf := HAT.out.res.frozen
            have rl := HAT.out.res.lt
            unfold zeroNd at r0
            go_wp2_with fail
            refine ends_at rfl rfl rfl ((((HAT.out.res.set 0 _).set 1 _).set 2 _).set 3 _) Tryz.underlying66 rfl (by kernel_rfl) ?_
            exact ret_value HAT.out (below B) (HV8.out) (below_yes (by omega)) (fun i hi => below_yes (by omega)) (HT.out)
          | true =>
            have HT0 := HT.out
            clear HT
            simp only [↓reduceIte] at HT0
            have HT := Lib.hid HT0
            clear HT0
            have HAT0 := HAT.out.lt
            obtain ⟨B, hB⟩ : ∃ B, u7.heap.size = B := ⟨_, rfl⟩
            rw [hB] at HAT0
            have HN := Lib.hid (ih n (Nat.le_refl _) (.call s6) _ _ HAT.out.pr HM.out rfl HSZ.out (by rw [HT.out]; exact HNE.out))
            go_wp2_with fail
            refine HN.out.mono ?_
            rintro e u9 hr
            obtain ⟨hC, ⟨lb, hp, rfl⟩ | ⟨x9, l9, v9, hp, rfl, hv, hP⟩⟩ := hr.cases (by rw [HT.out]; exact HNE.out)
            · have HF := Lib.hid (HT.out.symm.trans hp)
              have HC := Lib.hid (HAT.out.chg.then hC)
              clear hr hp hC
              go_wp2_with fail
              exact ⟨rfl, Pst.fails HC.out HF.out⟩
            replace HT := Lib.hid (HT.out.symm.trans hp)
            replace HAT := Lib.hid (HAT.out.call hC hP)
            obtain ⟨ka9, ta9, ma9, aa9, na9, ca9, rfl⟩ := nd_form hv
            have HV9 := Lib.hid hv
            have hsz9 : u7.heap.size ≤ u9.heap.size := hC.size
            clear hr hp hC hP hv HN
            rw [hB] at HV9
            have r0 := HAT.out.res.cell
            have rf := HAT.out.res.frozen
            have rl := HAT.out.res.lt
            unfold zeroNd at r0
            go_wp2_with fail
            refine ends_at rfl rfl rfl ((((HAT.out.res.set 0 _).set 1 _).set 2 _).set 3 _) Tryz.underlying66 rfl (by kernel_rfl) ?_
            exact ret_value HAT.out (below B) (HV9.out) (below_yes (by omega)) (fun i hi => below_yes (by omega)) (HT.out)
      | true =>
        have HT0 := HT.out
        clear HT
        simp only [↓reduceIte] at HT0
        have HT := Lib.hid HT0
        clear HT0
        have HAT0 := HAT.out.lt
        obtain ⟨B, hB⟩ : ∃ B, u3.heap.size = B := ⟨_, rfl⟩
        rw [hB] at HAT0
        have HN := Lib.hid (ih n (Nat.le_refl _) (.asked) _ _ HAT.out.pr HM.out rfl trivial (by rw [HT.out]; exact HNE.out))
        go_wp2_with fail
        refine HN.out.mono ?_
        rintro e u10 hr
        obtain ⟨hC, ⟨lb, hp, rfl⟩ | ⟨x10, l10, v10, hp, rfl, hv, hP⟩⟩ := hr.cases (by rw [HT.out]; exact HNE.out)
        · have HF := Lib.hid (HT.out.symm.trans hp)
          have HC := Lib.hid (HAT.out.chg.then hC)
          clear hr hp hC
          go_wp2_with fail
          exact ⟨rfl, Pst.fails HC.out HF.out⟩
        replace HT := Lib.hid (HT.out.symm.trans hp)
        replace HAT := Lib.hid (HAT.out.call hC hP)
        obtain ⟨ka10, ta10, ma10, aa10, na10, ca10, rfl⟩ := nd_form hv
        have HV10 := Lib.hid hv
        have hsz10 : u3.heap.size ≤ u10.heap.size := hC.size
        clear hr hp hC hP hv HN
        rw [hB] at HV10
        have r0 := HAT.out.res.cell
        have rf := HAT.out.res.frozen
        have rl := HAT.out.res.lt
        unfold zeroNd at r0
        go_wp2_with fail
        refine ends_at rfl rfl rfl ((((HAT.out.res.set 0 _).set 1 _).set 2 _).set 3 _) Tryz.underlying66 rfl (by kernel_rfl) ?_
        exact ret_value HAT.out (below B) (HV10.out) (below_yes (by omega)) (fun i hi => below_yes (by omega)) (HT.out)
    | true =>
      replace hP : PrAt W u2 S E l.tail := by simpa using hP
      have HT0 := HT.out
      clear HT
      simp only [↓reduceIte] at HT0
      have HT := Lib.hid HT0
      clear HT0
      replace HAT := Lib.hid (HAT.out.call hC hP)
      clear hC hP HH HLE
      have HAT0 := HAT.out.lt
      obtain ⟨B, hB⟩ : ∃ B, u2.heap.size = B := ⟨_, rfl⟩
      rw [hB] at HAT0
      have HN := Lib.hid (ih n (Nat.le_refl _) (.unary) _ _ HAT.out.pr HM.out rfl trivial (Out.bind_ne HT.out HNE.out))
      go_wp2_with fail
      refine HN.out.mono ?_
      rintro e u12 hr
      obtain ⟨hC, ⟨lb, hp, rfl⟩ | ⟨x12, l12, v12, hp, rfl, hv, hP⟩⟩ := hr.cases (Out.bind_ne HT.out HNE.out)
      · have HF := Lib.hid (Out.bind_bad HT.out hp)
        have HC := Lib.hid (HAT.out.chg.then hC)
        clear hr hp hC
        go_wp2_with fail
        exact ⟨rfl, Pst.fails HC.out HF.out⟩
      replace HT := Lib.hid (Out.bind_got HT.out hp)
      replace HAT := Lib.hid (HAT.out.call hC hP)
      obtain ⟨ka12, ta12, ma12, aa12, na12, ca12, rfl⟩ := nd_form hv
      have HV12 := Lib.hid hv
      have hsz12 : u2.heap.size ≤ u12.heap.size := hC.size
      clear hr hp hC hP hv HN
      rw [hB] at HV12 hsz12
      replace HR := Lib.hid (nd_row1 HV12.out (by simp [below]; omega) 21 0 noText (by decide) (c := #[.int .i64 ka12, .string ta12, .int .i64 ma12, .slice aa12 na12 ca12]) rfl)
      have hEx := (Chg.refl (fun _ => False) u12).alloc (.cells #[.int .i64 ka12, .string ta12, .int .i64 ma12, .slice aa12 na12 ca12] 66)
      replace HAT := Lib.hid (HAT.out.extend hEx)
      clear hEx
      go_wp2_with fail
      refine (node_any _ _ _ _ _ _ _).mono ?_
      rintro e u13 ⟨rfl, hE⟩
      replace HAT := Lib.hid (HAT.out.extend hE)
      replace HR := Lib.hid (ndAt_keeps (keeps_chg hE fun _ _ h => h.elim) _ _ HR.out)
      clear hE
      have r0 := HAT.out.res.cell
      have rf := HAT.out.res.frozen
      have rl := HAT.out.res.lt
      unfold zeroNd at r0
      go_wp2_with fail
      refine ends_at rfl rfl rfl ((((HAT.out.res.set 0 _).set 1 _).set 2 _).set 3 _) Tryz.underlying66 rfl (by kernel_rfl) ?_
      exact ret_value HAT.out (below B) (HR.out) (below_yes (by omega)) (fun i hi => below_yes (by omega)) (HT.out.symm)
  | true =>
    replace hP : PrAt W u1 S E l.tail := by simpa using hP
    have HT0 := HT.out
    clear HT
    simp only [↓reduceIte] at HT0
    have HT := Lib.hid HT0
    clear HT0
    replace HAT := Lib.hid (HAT.out.call hC hP)
    clear hC hP HH HLE
    have HAT0 := HAT.out.lt
    obtain ⟨B, hB⟩ : ∃ B, u1.heap.size = B := ⟨_, rfl⟩
    rw [hB] at HAT0
    have HN := Lib.hid (ih n (Nat.le_refl _) (.unary) _ _ HAT.out.pr HM.out rfl trivial (Out.bind_ne HT.out HNE.out))
    go_wp2_with fail
    refine HN.out.mono ?_
    rintro e u15 hr
    obtain ⟨hC, ⟨lb, hp, rfl⟩ | ⟨x15, l15, v15, hp, rfl, hv, hP⟩⟩ := hr.cases (Out.bind_ne HT.out HNE.out)
    · have HF := Lib.hid (Out.bind_bad HT.out hp)
      have HC := Lib.hid (HAT.out.chg.then hC)
      clear hr hp hC
      go_wp2_with fail
      exact ⟨rfl, Pst.fails HC.out HF.out⟩
    replace HT := Lib.hid (Out.bind_got HT.out hp)
    replace HAT := Lib.hid (HAT.out.call hC hP)
    obtain ⟨ka15, ta15, ma15, aa15, na15, ca15, rfl⟩ := nd_form hv
    have HV15 := Lib.hid hv
    have hsz15 : u1.heap.size ≤ u15.heap.size := hC.size
    clear hr hp hC hP hv HN
    rw [hB] at HV15 hsz15
    replace HR := Lib.hid (nd_row1 HV15.out (by simp [below]; omega) 20 0 noText (by decide) (c := #[.int .i64 ka15, .string ta15, .int .i64 ma15, .slice aa15 na15 ca15]) rfl)
    have hEx := (Chg.refl (fun _ => False) u15).alloc (.cells #[.int .i64 ka15, .string ta15, .int .i64 ma15, .slice aa15 na15 ca15] 66)
    replace HAT := Lib.hid (HAT.out.extend hEx)
    clear hEx
    go_wp2_with fail
    refine (node_any _ _ _ _ _ _ _).mono ?_
    rintro e u16 ⟨rfl, hE⟩
    replace HAT := Lib.hid (HAT.out.extend hE)
    replace HR := Lib.hid (ndAt_keeps (keeps_chg hE fun _ _ h => h.elim) _ _ HR.out)
    clear hE
    have r0 := HAT.out.res.cell
    have rf := HAT.out.res.frozen
    have rl := HAT.out.res.lt
    unfold zeroNd at r0
    go_wp2_with fail
    refine ends_at rfl rfl rfl ((((HAT.out.res.set 0 _).set 1 _).set 2 _).set 3 _) Tryz.underlying66 rfl (by kernel_rfl) ?_
    exact ret_value HAT.out (below B) (HR.out) (below_yes (by omega)) (fun i hi => below_yes (by omega)) (HT.out.symm)
end synw
end Go.Proofs.YtpcihajmcejliabGreatDoor
