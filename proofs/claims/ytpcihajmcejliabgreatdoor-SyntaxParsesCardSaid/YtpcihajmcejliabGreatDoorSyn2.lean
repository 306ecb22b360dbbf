/- The walk of the program's parser: expressions. -/
import Derived.Test.YtpcihajmcejliabGreatDoorSynMC
namespace Go.Proofs.YtpcihajmcejliabGreatDoor
open Go.RowKit
namespace synw
set_option maxRecDepth 100000 in
set_option maxHeartbeats 4000000 in
theorem expr_any {n : Nat} (ih : ∀ m, m ≤ n → Good m) {W w : World} {S E : Nat} {l : List Tk} (h : PrAt W w S E l) (hm : MaxVar W) (hne : prs (n + 1) (.expr) l ≠ .out) :
    Calls Tryz.prog 323 #[.pointer (some ⟨S, 0, none⟩)] w (Pst (VN w.heap.size) W w S E (prs (n + 1) (.expr) l)) := by
  obtain ⟨T, hT⟩ : ∃ T, prs (n + 1) (.expr) l = T := ⟨_, rfl⟩
  rw [hT] at hne ⊢
  simp only [prs] at hT
  have HT := Lib.hid hT
  have HNE := Lib.hid hne
  have HM := Lib.hid hm
  have HAT : Hid (At W w (w.alloc (.cells #[.int .i64 0, .string ⟨#[]⟩, .int .i64 0, .slice none 0 0] 66)) S E w.heap.size l) := Lib.hid (At.start h)
  obtain ⟨A, hA⟩ : ∃ A, w.heap.size = A := ⟨_, rfl⟩
  rw [hA] at HAT
  have hSA : S < A := by have := h.lt; omega
  clear h hm hne hT
  go_enter Tryz.func323, Tryz.ntmps323
  go_upto_region 1 with (fail)
  generalize w.alloc (.cells #[.int .i64 0, .string ⟨#[]⟩, .int .i64 0, .slice none 0 0] 66) = u0 at *
  have HAT0 := HAT.out.lt
  obtain ⟨B, hB⟩ : ∃ B, u0.heap.size = B := ⟨_, rfl⟩
  rw [hB] at HAT0
  have HN := Lib.hid (ih n (Nat.le_refl _) (.bound 0) _ _ HAT.out.pr HM.out rfl (Nat.zero_le _) (by rw [HT.out]; exact HNE.out))
  go_wp2_with fail
  refine HN.out.mono ?_
  rintro e u1 hr
  obtain ⟨hC, ⟨lb, hp, rfl⟩ | ⟨x1, l1, v1, hp, rfl, hv, hP⟩⟩ := hr.cases (by rw [HT.out]; exact HNE.out)
  · have HF := Lib.hid (HT.out.symm.trans hp)
    have HC := Lib.hid (HAT.out.chg.then hC)
    clear hr hp hC
    go_wp2_with fail
    exact ⟨rfl, Pst.fails HC.out HF.out⟩
  replace HT := Lib.hid (HT.out.symm.trans hp)
  replace HAT := Lib.hid (HAT.out.call hC hP)
  obtain ⟨ka1, ta1, ma1, aa1, na1, ca1, rfl⟩ := nd_form hv
  have HV1 := Lib.hid hv
  have hsz1 : u0.heap.size ≤ u1.heap.size := hC.size
  clear hr hp hC hP hv HN
  rw [hB] at HV1
  have r0 := HAT.out.res.cell
  have rf := HAT.out.res.frozen
  have rl := HAT.out.res.lt
  unfold zeroNd at r0
  go_wp2_with fail
  refine ends_at rfl rfl rfl ((((HAT.out.res.set 0 _).set 1 _).set 2 _).set 3 _) Tryz.underlying66 rfl (by kernel_rfl) ?_
  exact ret_value HAT.out (below B) (HV1.out) (below_yes (by omega)) (fun i hi => below_yes (by omega)) (HT.out)
set_option maxRecDepth 100000 in
set_option maxHeartbeats 4000000 in
theorem asked_any {n : Nat} (ih : ∀ m, m ≤ n → Good m) {W w : World} {S E : Nat} {l : List Tk} (h : PrAt W w S E l) (hm : MaxVar W) (hne : prs (n + 1) (.asked) l ≠ .out) :
    Calls Tryz.prog 326 #[.pointer (some ⟨S, 0, none⟩)] w (Pst (VN w.heap.size) W w S E (prs (n + 1) (.asked) l)) := by
  obtain ⟨T, hT⟩ : ∃ T, prs (n + 1) (.asked) l = T := ⟨_, rfl⟩
  rw [hT] at hne ⊢
  simp only [prs] at hT
  have HT := Lib.hid hT
  have HNE := Lib.hid hne
  have HM := Lib.hid hm
  have HAT : Hid (At W w (w.alloc (.cells #[.int .i64 0, .string ⟨#[]⟩, .int .i64 0, .slice none 0 0] 66)) S E w.heap.size l) := Lib.hid (At.start h)
  obtain ⟨A, hA⟩ : ∃ A, w.heap.size = A := ⟨_, rfl⟩
  rw [hA] at HAT
  have hSA : S < A := by have := h.lt; omega
  clear h hm hne hT
  go_enter Tryz.func326, Tryz.ntmps326
  go_upto_region 1 with (fail)
  generalize w.alloc (.cells #[.int .i64 0, .string ⟨#[]⟩, .int .i64 0, .slice none 0 0] 66) = u0 at *
  have HN := Lib.hid (need_any (HAT.out.pr.alloc (.cells #[.string sOpen] 9)) u0.heap.size 1 sOpen ((Blk.made u0 #[.string sOpen] 9).cell 0))
  have hEx := (Chg.refl (fun _ => False) u0).alloc (.cells #[.string sOpen] 9)
  replace HAT := Lib.hid (HAT.out.extend hEx)
  clear hEx
  go_wp2_with fail
  refine HN.out.mono ?_
  rintro e u1 hr
  obtain ⟨hC, ⟨lb, hp, rfl⟩ | ⟨_, l1, _, hp, rfl, rfl, hP⟩⟩ := hr.cases (pNeed_ne _ _)
  · have HF := Lib.hid (Out.bind_bad HT.out hp)
    have HC := Lib.hid (HAT.out.chg.then hC)
    clear hr hp hC
    go_wp2_with fail
    exact ⟨rfl, Pst.fails HC.out HF.out⟩
  replace HT := Lib.hid (Out.bind_got HT.out hp)
  replace HAT := Lib.hid (HAT.out.call hC hP)
  clear hr hp hC hP HN
  have HAT0 := HAT.out.lt
  obtain ⟨B, hB⟩ : ∃ B, u1.heap.size = B := ⟨_, rfl⟩
  rw [hB] at HAT0
  have HN := Lib.hid (ih n (Nat.le_refl _) (.expr) _ _ HAT.out.pr HM.out rfl trivial (Out.bind_ne HT.out HNE.out))
  go_wp2_with fail
  refine HN.out.mono ?_
  rintro e u2 hr
  obtain ⟨hC, ⟨lb, hp, rfl⟩ | ⟨x2, l2, v2, hp, rfl, hv, hP⟩⟩ := hr.cases (Out.bind_ne HT.out HNE.out)
  · have HF := Lib.hid (Out.bind_bad HT.out hp)
    have HC := Lib.hid (HAT.out.chg.then hC)
    clear hr hp hC
    go_wp2_with fail
    exact ⟨rfl, Pst.fails HC.out HF.out⟩
  replace HT := Lib.hid (Out.bind_got HT.out hp)
  replace HAT := Lib.hid (HAT.out.call hC hP)
  obtain ⟨ka2, ta2, ma2, aa2, na2, ca2, rfl⟩ := nd_form hv
  have HV2 := Lib.hid hv
  have hsz2 : u1.heap.size ≤ u2.heap.size := hC.size
  clear hr hp hC hP hv HN
  rw [hB] at HV2 hsz2
  have HL := Lib.hid (Loc.start HV2.out (by omega : S < B) hsz2 (c := #[.int .i64 ka2, .string ta2, .int .i64 ma2, .slice aa2 na2 ca2]) rfl)
  replace HAT := Lib.hid (HAT.out.alloc (.cells #[.int .i64 ka2, .string ta2, .int .i64 ma2, .slice aa2 na2 ca2] 66))
  obtain ⟨N, hN⟩ : ∃ N, u2.heap.size = N := ⟨_, rfl⟩
  have hBN : B ≤ N := hN ▸ hsz2
  rw [hN] at HL
  go_upto_region 3 with (fail)
  generalize u2.alloc (.cells #[.int .i64 ka2, .string ta2, .int .i64 ma2, .slice aa2 na2 ca2] 66) = u9 at *
  have HN := Lib.hid (need_any (HAT.out.pr.alloc (.cells #[.string sClose] 9)) u9.heap.size 1 sClose ((Blk.made u9 #[.string sClose] 9).cell 0))
  have hEx := (Chg.refl (fun _ => False) u9).alloc (.cells #[.string sClose] 9)
  replace HAT := Lib.hid (HAT.out.extend hEx)
  replace HL := Lib.hid (HL.out.extend hEx)
  clear hEx
  go_wp2_with fail
  refine HN.out.mono ?_
  rintro e u3 hr
  obtain ⟨hC, ⟨lb, hp, rfl⟩ | ⟨_, l3, _, hp, rfl, rfl, hP⟩⟩ := hr.cases (pNeed_ne _ _)
  · have HF := Lib.hid (Out.bind_bad HT.out hp)
    have HC := Lib.hid (HAT.out.chg.then hC)
    clear hr hp hC
    go_wp2_with fail
    exact ⟨rfl, Pst.fails HC.out HF.out⟩
  replace HT := Lib.hid (Out.bind_got HT.out hp)
  replace HAT := Lib.hid (HAT.out.call hC hP)
  replace HL := Lib.hid (HL.out.call hC)
  clear hr hp hC hP HN
  have hc := HL.out.nd.cell
  simp only [Value.cells] at hc
  have r0 := HAT.out.res.cell
  have rf := HAT.out.res.frozen
  have rl := HAT.out.res.lt
  unfold zeroNd at r0
  go_wp2_with fail
  refine ends_at rfl rfl rfl ((((HAT.out.res.set 0 _).set 1 _).set 2 _).set 3 _) Tryz.underlying66 rfl (by kernel_rfl) ?_
  exact ret_value HAT.out (hidB B N) (HL.out.dat) (hidB_yes (by omega)) (fun i hi => hidB_yes (by omega)) (HT.out.symm)
set_option maxRecDepth 100000 in
set_option maxHeartbeats 4000000 in
theorem place_any {n : Nat} (ih : ∀ m, m ≤ n → Good m) {W w : World} {S E : Nat} {l : List Tk} {s : ByteArray} (h : PrAt W w S E l) (hm : MaxVar W) (hs : s.size ≤ 7000) (hne : prs (n + 1) (.place s) l ≠ .out) :
    Calls Tryz.prog 327 #[.pointer (some ⟨S, 0, none⟩), .string s] w (Pst (VN w.heap.size) W w S E (prs (n + 1) (.place s) l)) := by
  obtain ⟨T, hT⟩ : ∃ T, prs (n + 1) (.place s) l = T := ⟨_, rfl⟩
  rw [hT] at hne ⊢
  simp only [prs] at hT
  have HT := Lib.hid hT
  have HNE := Lib.hid hne
  have HM := Lib.hid hm
  have HAT : Hid (At W w (w.alloc (.cells #[.int .i64 0, .string ⟨#[]⟩, .int .i64 0, .slice none 0 0] 66)) S E w.heap.size l) := Lib.hid (At.start h)
  obtain ⟨A, hA⟩ : ∃ A, w.heap.size = A := ⟨_, rfl⟩
  rw [hA] at HAT
  have hSA : S < A := by have := h.lt; omega
  clear h hm hne hT
  go_enter Tryz.func327, Tryz.ntmps327
  go_upto_region 1 with (fail)
  generalize w.alloc (.cells #[.int .i64 0, .string ⟨#[]⟩, .int .i64 0, .slice none 0 0] 66) = u0 at *
  have HH := Lib.hid (have_any HAT.out.pr sBra)
  have HLE := Lib.hid (fun (h : isB l [sBra] = true) => synm.tail_lt h)
  generalize isB l [sBra] = R at *
  go_wp2_with fail
  refine HH.out.mono ?_
  rintro e u1 ⟨rfl, hC, hP⟩
  cases R with
  | false =>
    replace hP : PrAt W u1 S E l := by simpa using hP
    have HT0 := HT.out
    clear HT
    simp only [Bool.false_eq_true, ↓reduceIte] at HT0
    have HT := Lib.hid HT0
    clear HT0
    replace HAT := Lib.hid (HAT.out.call hC hP)
    clear hC hP HH HLE
    go_wp2_with fail
    refine (node_any _ _ _ _ _ _ _).mono ?_
    rintro e u2 ⟨rfl, hE⟩
    replace HAT := Lib.hid (HAT.out.extend hE)
    have HAT0 := HAT.out.lt
    clear hE
    have r0 := HAT.out.res.cell
    have rf := HAT.out.res.frozen
    have rl := HAT.out.res.lt
    unfold zeroNd at r0
    go_wp2_with fail
    refine ends_at rfl rfl rfl ((((HAT.out.res.set 0 _).set 1 _).set 2 _).set 3 _) Tryz.underlying66 rfl (by kernel_rfl) ?_
    exact ret_value HAT.out (below (A + 1)) (ndAt_leaf _ _ _ _ (by omega)) (below_yes (by omega)) (fun i hi => below_yes (by omega)) (HT.out.symm)
  | true =>
    replace hP : PrAt W u1 S E l.tail := by simpa using hP
    have HT0 := HT.out
    clear HT
    simp only [↓reduceIte] at HT0
    have HT := Lib.hid HT0
    clear HT0
    replace HAT := Lib.hid (HAT.out.call hC hP)
    clear hC hP HH HLE
    have HAT0 := HAT.out.lt
    obtain ⟨B, hB⟩ : ∃ B, u1.heap.size = B := ⟨_, rfl⟩
    rw [hB] at HAT0
    have HN := Lib.hid (ih n (Nat.le_refl _) (.expr) _ _ HAT.out.pr HM.out rfl trivial (Out.bind_ne HT.out HNE.out))
    go_wp2_with fail
    refine HN.out.mono ?_
    rintro e u4 hr
    obtain ⟨hC, ⟨lb, hp, rfl⟩ | ⟨x4, l4, v4, hp, rfl, hv, hP⟩⟩ := hr.cases (Out.bind_ne HT.out HNE.out)
    · have HF := Lib.hid (Out.bind_bad HT.out hp)
      have HC := Lib.hid (HAT.out.chg.then hC)
      clear hr hp hC
      go_wp2_with fail
      exact ⟨rfl, Pst.fails HC.out HF.out⟩
    replace HT := Lib.hid (Out.bind_got HT.out hp)
    replace HAT := Lib.hid (HAT.out.call hC hP)
    obtain ⟨ka4, ta4, ma4, aa4, na4, ca4, rfl⟩ := nd_form hv
    have HV4 := Lib.hid hv
    have hsz4 : u1.heap.size ≤ u4.heap.size := hC.size
    clear hr hp hC hP hv HN
    rw [hB] at HV4 hsz4
    have HL := Lib.hid (Loc.start HV4.out (by omega : S < B) hsz4 (c := #[.int .i64 ka4, .string ta4, .int .i64 ma4, .slice aa4 na4 ca4]) rfl)
    replace HAT := Lib.hid (HAT.out.alloc (.cells #[.int .i64 ka4, .string ta4, .int .i64 ma4, .slice aa4 na4 ca4] 66))
    obtain ⟨N, hN⟩ : ∃ N, u4.heap.size = N := ⟨_, rfl⟩
    have hBN : B ≤ N := hN ▸ hsz4
    rw [hN] at HL
    go_upto_region 4 with (fail)
    generalize u4.alloc (.cells #[.int .i64 ka4, .string ta4, .int .i64 ma4, .slice aa4 na4 ca4] 66) = u9 at *
    have HN := Lib.hid (need_any (HAT.out.pr.alloc (.cells #[.string sKet] 9)) u9.heap.size 1 sKet ((Blk.made u9 #[.string sKet] 9).cell 0))
    have hEx := (Chg.refl (fun _ => False) u9).alloc (.cells #[.string sKet] 9)
    replace HAT := Lib.hid (HAT.out.extend hEx)
    replace HL := Lib.hid (HL.out.extend hEx)
    clear hEx
    go_wp2_with fail
    refine HN.out.mono ?_
    rintro e u5 hr
    obtain ⟨hC, ⟨lb, hp, rfl⟩ | ⟨_, l5, _, hp, rfl, rfl, hP⟩⟩ := hr.cases (pNeed_ne _ _)
    · have HF := Lib.hid (Out.bind_bad HT.out hp)
      have HC := Lib.hid (HAT.out.chg.then hC)
      clear hr hp hC
      go_wp2_with fail
      exact ⟨rfl, Pst.fails HC.out HF.out⟩
    replace HT := Lib.hid (Out.bind_got HT.out hp)
    replace HAT := Lib.hid (HAT.out.call hC hP)
    replace HL := Lib.hid (HL.out.call hC)
    clear hr hp hC hP HN
    have hNu := HL.out.nd.lt
    replace HR := Lib.hid (nd_row1 HL.out.dat (by simp [hidB]; omega) 17 0 s (by first | omega | decide) (c := #[.int .i64 ka4, .string ta4, .int .i64 ma4, .slice aa4 na4 ca4]) rfl)
    have hc := HL.out.nd.cell
    simp only [Value.cells] at hc
    have hEx := (Chg.refl (fun _ => False) u5).alloc (.cells #[.int .i64 ka4, .string ta4, .int .i64 ma4, .slice aa4 na4 ca4] 66)
    replace HAT := Lib.hid (HAT.out.extend hEx)
    clear hEx
    go_wp2_with fail
    refine (node_any _ _ _ _ _ _ _).mono ?_
    rintro e u6 ⟨rfl, hE⟩
    replace HAT := Lib.hid (HAT.out.extend hE)
    replace HR := Lib.hid (ndAt_keeps (keeps_chg hE fun _ _ h => h.elim) _ _ HR.out)
    clear hE hc
    have r0 := HAT.out.res.cell
    have rf := HAT.out.res.frozen
    have rl := HAT.out.res.lt
    unfold zeroNd at r0
    go_wp2_with fail
    refine ends_at rfl rfl rfl ((((HAT.out.res.set 0 _).set 1 _).set 2 _).set 3 _) Tryz.underlying66 rfl (by kernel_rfl) ?_
    exact ret_value HAT.out (hidB B N) (HR.out) (hidB_yes (by omega)) (fun i hi => hidB_yes (by omega)) (HT.out.symm)
set_option maxRecDepth 100000 in
set_option maxHeartbeats 4000000 in
theorem op_any (s : ByteArray) (w : World) : Calls Tryz.prog 291 #[.string s] w fun e w' => e = .returned (.tuple #[.int .i64 (opOf s).1, .int .i64 (opOf s).2]) ∧ w = w' := by
  by_cases h0 : s = ⟨#[61, 61]⟩
  · subst h0
    go_enter Tryz.func291, Tryz.ntmps291
    go_wp2_with fail
    go_ret2
    exact ⟨rfl, rfl⟩
  by_cases h1 : s = ⟨#[60]⟩
  · subst h1
    go_enter Tryz.func291, Tryz.ntmps291
    go_wp2_with fail
    go_ret2
    exact ⟨rfl, rfl⟩
  by_cases h2 : s = ⟨#[43]⟩
  · subst h2
    go_enter Tryz.func291, Tryz.ntmps291
    go_wp2_with fail
    go_ret2
    exact ⟨rfl, rfl⟩
  by_cases h3 : s = ⟨#[45]⟩
  · subst h3
    go_enter Tryz.func291, Tryz.ntmps291
    go_wp2_with fail
    go_ret2
    exact ⟨rfl, rfl⟩
  by_cases h4 : s = ⟨#[124]⟩
  · subst h4
    go_enter Tryz.func291, Tryz.ntmps291
    go_wp2_with fail
    go_ret2
    exact ⟨rfl, rfl⟩
  by_cases h5 : s = ⟨#[42]⟩
  · subst h5
    go_enter Tryz.func291, Tryz.ntmps291
    go_wp2_with fail
    go_ret2
    exact ⟨rfl, rfl⟩
  by_cases h6 : s = ⟨#[47]⟩
  · subst h6
    go_enter Tryz.func291, Tryz.ntmps291
    go_wp2_with fail
    go_ret2
    exact ⟨rfl, rfl⟩
  by_cases h7 : s = ⟨#[37]⟩
  · subst h7
    go_enter Tryz.func291, Tryz.ntmps291
    go_wp2_with fail
    go_ret2
    exact ⟨rfl, rfl⟩
  by_cases h8 : s = ⟨#[38]⟩
  · subst h8
    go_enter Tryz.func291, Tryz.ntmps291
    go_wp2_with fail
    go_ret2
    exact ⟨rfl, rfl⟩
  have g0 : (s.toList == [61, 61]) = false := by
    have := str_eq (a := s) (b := ⟨#[61, 61]⟩)
    rw [show ((⟨#[61, 61]⟩ : ByteArray).toList) = [61, 61] by rw [ByteArray.toList_eq]] at this
    rw [this]; simpa using h0
  have g1 : (s.toList == [60]) = false := by
    have := str_eq (a := s) (b := ⟨#[60]⟩)
    rw [show ((⟨#[60]⟩ : ByteArray).toList) = [60] by rw [ByteArray.toList_eq]] at this
    rw [this]; simpa using h1
  have g2 : (s.toList == [43]) = false := by
    have := str_eq (a := s) (b := ⟨#[43]⟩)
    rw [show ((⟨#[43]⟩ : ByteArray).toList) = [43] by rw [ByteArray.toList_eq]] at this
    rw [this]; simpa using h2
  have g3 : (s.toList == [45]) = false := by
    have := str_eq (a := s) (b := ⟨#[45]⟩)
    rw [show ((⟨#[45]⟩ : ByteArray).toList) = [45] by rw [ByteArray.toList_eq]] at this
    rw [this]; simpa using h3
  have g4 : (s.toList == [124]) = false := by
    have := str_eq (a := s) (b := ⟨#[124]⟩)
    rw [show ((⟨#[124]⟩ : ByteArray).toList) = [124] by rw [ByteArray.toList_eq]] at this
    rw [this]; simpa using h4
  have g5 : (s.toList == [42]) = false := by
    have := str_eq (a := s) (b := ⟨#[42]⟩)
    rw [show ((⟨#[42]⟩ : ByteArray).toList) = [42] by rw [ByteArray.toList_eq]] at this
    rw [this]; simpa using h5
  have g6 : (s.toList == [47]) = false := by
    have := str_eq (a := s) (b := ⟨#[47]⟩)
    rw [show ((⟨#[47]⟩ : ByteArray).toList) = [47] by rw [ByteArray.toList_eq]] at this
    rw [this]; simpa using h6
  have g7 : (s.toList == [37]) = false := by
    have := str_eq (a := s) (b := ⟨#[37]⟩)
    rw [show ((⟨#[37]⟩ : ByteArray).toList) = [37] by rw [ByteArray.toList_eq]] at this
    rw [this]; simpa using h7
  have g8 : (s.toList == [38]) = false := by
    have := str_eq (a := s) (b := ⟨#[38]⟩)
    rw [show ((⟨#[38]⟩ : ByteArray).toList) = [38] by rw [ByteArray.toList_eq]] at this
    rw [this]; simpa using h8
  have hT : opOf s = (0, -1) := by simp only [opOf, if_neg h0, if_neg h1, if_neg h2, if_neg h3, if_neg h4, if_neg h5, if_neg h6, if_neg h7, if_neg h8]
  rw [hT]
  clear hT h0 h1 h2 h3 h4 h5 h6 h7 h8
  go_enter Tryz.func291, Tryz.ntmps291
  go_wp2_with fail
  go_ret2
  exact ⟨rfl, rfl⟩
end synw
end Go.Proofs.YtpcihajmcejliabGreatDoor
