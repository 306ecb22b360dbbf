/- The walk of the program's parser: expressions. The walk of the program's parser: unary. The walk of the program's parser: calls. -/
import Derived.Deep.CutBlock
import Derived.Deep.DeepCutAuto
import Derived.Test.YtpcihajmcejliabGreatDoorSynR1
namespace Go.Proofs.YtpcihajmcejliabGreatDoor
open Go.RowKit
namespace synw
set_option maxRecDepth 100000 in
set_option maxHeartbeats 4000000 in
theorem expr_any {n : Nat} (ih : ∀ m, m ≤ n → Good m) {W w : World} {S E : Nat} {l : List Tk} (h : PrAt W w S E l) (hm : MaxVar W) (hne : prs (n + 1) (.expr) l ≠ .out) :
  Calls Tryz.prog 323 #[.pointer (some ⟨S, 0, none⟩)] w (Pst (VN w.heap.size) W w S E (prs (n + 1) (.expr) l)) := by
 obtain ⟨T, hT⟩ : ∃ T, prs (n + 1) (.expr) l = T := ⟨_, rfl⟩; rw [hT] at hne ⊢; simp only [prs] at hT; have HT := Z_ hT; have HNE := Z_ hne; have HM := Z_ hm; have HAT : Hid (At W w (w.alloc (.cells #[.int .i64 0, .string ⟨#[]⟩, .int .i64 0, .slice none 0 0] 66)) S E w.heap.size l) := Z_ (At.start h); obtain ⟨A, hA⟩ : ∃ A, w.heap.size = A := ⟨_, rfl⟩; rw [hA] at HAT; have hSA : S < A := by have := h.lt; omega
 clear h hm hne hT; go_enter Tryz.func323, Tryz.ntmps323
 go_upto_region 1 with (fail)
 generalize w.alloc (.cells #[.int .i64 0, .string ⟨#[]⟩, .int .i64 0, .slice none 0 0] 66) = u0 at *; have HAT0 := HAT.out.lt; obtain ⟨B, hB⟩ : ∃ B, u0.heap.size = B := ⟨_, rfl⟩; rw [hB] at HAT0; have HN := Z_ (ih n (Nat.le_refl _) (.bound 0) _ _ HAT.out.pr HM.out rfl (Nat.zero_le _) (by rw [HT.out]; exact HNE.out)); go_wp2_with fail
 refine HN.out.mono ?_
 rintro e u1 hr; obtain ⟨hC, ⟨lb, hp, rfl⟩ | ⟨x1, l1, v1, hp, rfl, hv, hP⟩⟩ := hr.cases (by rw [HT.out]; exact HNE.out)
 ·have HF := Z_ (HT.out.symm.trans hp)
  have HC := Z_ (HAT.out.chg.then hC); clear hr hp hC; go_wp2_with fail
  exact ⟨rfl, Pst.fails HC.out HF.out⟩
 replace HT := Z_ (HT.out.symm.trans hp); replace HAT := Z_ (HAT.out.call hC hP); obtain ⟨ka1, ta1, ma1, aa1, na1, ca1, rfl⟩ := nd_form hv; have HV1 := Z_ hv; have hsz1 : u0.heap.size ≤ u1.heap.size := hC.size; clear hr hp hC hP hv HN; rw [hB] at HV1; have r0 := HAT.out.res.cell; have rf := HAT.out.res.frozen; have rl := HAT.out.res.lt; unfold zeroNd at r0; go_wp2_with fail
 refine ends_at rfl rfl rfl ((((HAT.out.res.set 0 _).set 1 _).set 2 _).set 3 _) Tryz.underlying66 rfl (by kernel_rfl) ?_
 exact ret_value HAT.out (below B) (HV1.out) (below_yes (by omega)) (fun i hi => below_yes (by omega)) (HT.out)
set_option maxRecDepth 100000 in
set_option maxHeartbeats 4000000 in
theorem asked_any {n : Nat} (ih : ∀ m, m ≤ n → Good m) {W w : World} {S E : Nat} {l : List Tk} (h : PrAt W w S E l) (hm : MaxVar W) (hne : prs (n + 1) (.asked) l ≠ .out) :
  Calls Tryz.prog 326 #[.pointer (some ⟨S, 0, none⟩)] w (Pst (VN w.heap.size) W w S E (prs (n + 1) (.asked) l)) := by
 obtain ⟨T, hT⟩ : ∃ T, prs (n + 1) (.asked) l = T := ⟨_, rfl⟩; rw [hT] at hne ⊢; simp only [prs] at hT; have HT := Z_ hT; have HNE := Z_ hne; have HM := Z_ hm; have HAT : Hid (At W w (w.alloc (.cells #[.int .i64 0, .string ⟨#[]⟩, .int .i64 0, .slice none 0 0] 66)) S E w.heap.size l) := Z_ (At.start h); obtain ⟨A, hA⟩ : ∃ A, w.heap.size = A := ⟨_, rfl⟩; rw [hA] at HAT; have hSA : S < A := by have := h.lt; omega
 clear h hm hne hT; go_enter Tryz.func326, Tryz.ntmps326
 go_upto_region 1 with (fail)
 generalize w.alloc (.cells #[.int .i64 0, .string ⟨#[]⟩, .int .i64 0, .slice none 0 0] 66) = u0 at *; have HN := Z_ (need_any (HAT.out.pr.alloc (.cells #[.string sOpen] 9)) u0.heap.size 1 sOpen ((Blk.made u0 #[.string sOpen] 9).cell 0)); have hEx := (Chg.refl (fun _ => False) u0).alloc (.cells #[.string sOpen] 9); replace HAT := Z_ (HAT.out.extend hEx); clear hEx; go_wp2_with fail
 refine HN.out.mono ?_
 rintro e u1 hr; obtain ⟨hC, ⟨lb, hp, rfl⟩ | ⟨_, l1, _, hp, rfl, rfl, hP⟩⟩ := hr.cases (pNeed_ne _ _)
 ·have HF := Z_ (Out.bind_bad HT.out hp)
  have HC := Z_ (HAT.out.chg.then hC); clear hr hp hC; go_wp2_with fail
  exact ⟨rfl, Pst.fails HC.out HF.out⟩
 replace HT := Z_ (Out.bind_got HT.out hp); replace HAT := Z_ (HAT.out.call hC hP); clear hr hp hC hP HN; have HAT0 := HAT.out.lt; obtain ⟨B, hB⟩ : ∃ B, u1.heap.size = B := ⟨_, rfl⟩; rw [hB] at HAT0; have HN := Z_ (ih n (Nat.le_refl _) (.expr) _ _ HAT.out.pr HM.out rfl trivial (Out.bind_ne HT.out HNE.out)); go_wp2_with fail
 refine HN.out.mono ?_
 rintro e u2 hr; obtain ⟨hC, ⟨lb, hp, rfl⟩ | ⟨x2, l2, v2, hp, rfl, hv, hP⟩⟩ := hr.cases (Out.bind_ne HT.out HNE.out)
 ·have HF := Z_ (Out.bind_bad HT.out hp)
  have HC := Z_ (HAT.out.chg.then hC); clear hr hp hC; go_wp2_with fail
  exact ⟨rfl, Pst.fails HC.out HF.out⟩
 replace HT := Z_ (Out.bind_got HT.out hp); replace HAT := Z_ (HAT.out.call hC hP); obtain ⟨ka2, ta2, ma2, aa2, na2, ca2, rfl⟩ := nd_form hv; have HV2 := Z_ hv; have hsz2 : u1.heap.size ≤ u2.heap.size := hC.size; clear hr hp hC hP hv HN; rw [hB] at HV2 hsz2; have HL := Z_ (Loc.start HV2.out (by omega : S < B) hsz2 (c := #[.int .i64 ka2, .string ta2, .int .i64 ma2, .slice aa2 na2 ca2]) rfl); replace HAT := Z_ (HAT.out.alloc (.cells #[.int .i64 ka2, .string ta2, .int .i64 ma2, .slice aa2 na2 ca2] 66)); obtain ⟨N, hN⟩ : ∃ N, u2.heap.size = N := ⟨_, rfl⟩; have hBN : B ≤ N := hN ▸ hsz2
 rw [hN] at HL; go_upto_region 3 with (fail)
 generalize u2.alloc (.cells #[.int .i64 ka2, .string ta2, .int .i64 ma2, .slice aa2 na2 ca2] 66) = u9 at *; have HN := Z_ (need_any (HAT.out.pr.alloc (.cells #[.string sClose] 9)) u9.heap.size 1 sClose ((Blk.made u9 #[.string sClose] 9).cell 0)); have hEx := (Chg.refl (fun _ => False) u9).alloc (.cells #[.string sClose] 9); replace HAT := Z_ (HAT.out.extend hEx); replace HL := Z_ (HL.out.extend hEx); clear hEx; go_wp2_with fail
 refine HN.out.mono ?_
 rintro e u3 hr; obtain ⟨hC, ⟨lb, hp, rfl⟩ | ⟨_, l3, _, hp, rfl, rfl, hP⟩⟩ := hr.cases (pNeed_ne _ _)
 ·have HF := Z_ (Out.bind_bad HT.out hp)
  have HC := Z_ (HAT.out.chg.then hC); clear hr hp hC; go_wp2_with fail
  exact ⟨rfl, Pst.fails HC.out HF.out⟩
 replace HT := Z_ (Out.bind_got HT.out hp); replace HAT := Z_ (HAT.out.call hC hP); replace HL := Z_ (HL.out.call hC); clear hr hp hC hP HN; have hc := HL.out.nd.cell; simp only [Value.cells] at hc; have r0 := HAT.out.res.cell; have rf := HAT.out.res.frozen; have rl := HAT.out.res.lt; unfold zeroNd at r0; go_wp2_with fail
 refine ends_at rfl rfl rfl ((((HAT.out.res.set 0 _).set 1 _).set 2 _).set 3 _) Tryz.underlying66 rfl (by kernel_rfl) ?_
 exact ret_value HAT.out (hidB B N) (HL.out.dat) (hidB_yes (by omega)) (fun i hi => hidB_yes (by omega)) (HT.out.symm)
set_option maxRecDepth 100000 in
set_option maxHeartbeats 4000000 in
theorem place_any {n : Nat} (ih : ∀ m, m ≤ n → Good m) {W w : World} {S E : Nat} {l : List Tk} {s : ByteArray} (h : PrAt W w S E l) (hm : MaxVar W) (hs : s.size ≤ 7000) (hne : prs (n + 1) (.place s) l ≠ .out) :
  Calls Tryz.prog 327 #[.pointer (some ⟨S, 0, none⟩), .string s] w (Pst (VN w.heap.size) W w S E (prs (n + 1) (.place s) l)) := by
 obtain ⟨T, hT⟩ : ∃ T, prs (n + 1) (.place s) l = T := ⟨_, rfl⟩; rw [hT] at hne ⊢; simp only [prs] at hT; have HT := Z_ hT; have HNE := Z_ hne; have HM := Z_ hm; have HAT : Hid (At W w (w.alloc (.cells #[.int .i64 0, .string ⟨#[]⟩, .int .i64 0, .slice none 0 0] 66)) S E w.heap.size l) := Z_ (At.start h); obtain ⟨A, hA⟩ : ∃ A, w.heap.size = A := ⟨_, rfl⟩; rw [hA] at HAT; have hSA : S < A := by have := h.lt; omega
 clear h hm hne hT; go_enter Tryz.func327, Tryz.ntmps327
 go_upto_region 1 with (fail)
 generalize w.alloc (.cells #[.int .i64 0, .string ⟨#[]⟩, .int .i64 0, .slice none 0 0] 66) = u0 at *; have HH := Z_ (have_any HAT.out.pr sBra); have HLE := Z_ (fun (h : isB l [sBra] = true) => synm.tail_lt h); generalize isB l [sBra] = R at *; go_wp2_with fail
 refine HH.out.mono ?_
 rintro e u1 ⟨rfl, hC, hP⟩; cases R with
 | false =>
  replace hP : PrAt W u1 S E l := by simpa using hP
  have HT0 := HT.out; clear HT; simp only [Bool.false_eq_true, ↓reduceIte] at HT0; have HT := Z_ HT0; clear HT0; replace HAT := Z_ (HAT.out.call hC hP); clear hC hP HH HLE; go_wp2_with fail
  refine (node_any _ _ _ _ _ _ _).mono ?_
  rintro e u2 ⟨rfl, hE⟩; replace HAT := Z_ (HAT.out.extend hE); have HAT0 := HAT.out.lt; clear hE; have r0 := HAT.out.res.cell; have rf := HAT.out.res.frozen; have rl := HAT.out.res.lt; unfold zeroNd at r0; go_wp2_with fail
  refine ends_at rfl rfl rfl ((((HAT.out.res.set 0 _).set 1 _).set 2 _).set 3 _) Tryz.underlying66 rfl (by kernel_rfl) ?_
  exact ret_value HAT.out (below (A + 1)) (ndAt_leaf _ _ _ _ (by omega)) (below_yes (by omega)) (fun i hi => below_yes (by omega)) (HT.out.symm)
 | true =>
  replace hP : PrAt W u1 S E l.tail := by simpa using hP
  have HT0 := HT.out; clear HT; simp only [↓reduceIte] at HT0; have HT := Z_ HT0; clear HT0; replace HAT := Z_ (HAT.out.call hC hP); clear hC hP HH HLE; have HAT0 := HAT.out.lt; obtain ⟨B, hB⟩ : ∃ B, u1.heap.size = B := ⟨_, rfl⟩; rw [hB] at HAT0; have HN := Z_ (ih n (Nat.le_refl _) (.expr) _ _ HAT.out.pr HM.out rfl trivial (Out.bind_ne HT.out HNE.out)); go_wp2_with fail
  refine HN.out.mono ?_
  rintro e u4 hr; obtain ⟨hC, ⟨lb, hp, rfl⟩ | ⟨x4, l4, v4, hp, rfl, hv, hP⟩⟩ := hr.cases (Out.bind_ne HT.out HNE.out)
  ·have HF := Z_ (Out.bind_bad HT.out hp)
   have HC := Z_ (HAT.out.chg.then hC); clear hr hp hC; go_wp2_with fail
   exact ⟨rfl, Pst.fails HC.out HF.out⟩
  replace HT := Z_ (Out.bind_got HT.out hp); replace HAT := Z_ (HAT.out.call hC hP); obtain ⟨ka4, ta4, ma4, aa4, na4, ca4, rfl⟩ := nd_form hv; have HV4 := Z_ hv; have hsz4 : u1.heap.size ≤ u4.heap.size := hC.size; clear hr hp hC hP hv HN; rw [hB] at HV4 hsz4; have HL := Z_ (Loc.start HV4.out (by omega : S < B) hsz4 (c := #[.int .i64 ka4, .string ta4, .int .i64 ma4, .slice aa4 na4 ca4]) rfl); replace HAT := Z_ (HAT.out.alloc (.cells #[.int .i64 ka4, .string ta4, .int .i64 ma4, .slice aa4 na4 ca4] 66)); obtain ⟨N, hN⟩ : ∃ N, u4.heap.size = N := ⟨_, rfl⟩; have hBN : B ≤ N := hN ▸ hsz4
  rw [hN] at HL; go_upto_region 4 with (fail)
  generalize u4.alloc (.cells #[.int .i64 ka4, .string ta4, .int .i64 ma4, .slice aa4 na4 ca4] 66) = u9 at *; have HN := Z_ (need_any (HAT.out.pr.alloc (.cells #[.string sKet] 9)) u9.heap.size 1 sKet ((Blk.made u9 #[.string sKet] 9).cell 0)); have hEx := (Chg.refl (fun _ => False) u9).alloc (.cells #[.string sKet] 9); replace HAT := Z_ (HAT.out.extend hEx); replace HL := Z_ (HL.out.extend hEx); clear hEx; go_wp2_with fail
  refine HN.out.mono ?_
  rintro e u5 hr; obtain ⟨hC, ⟨lb, hp, rfl⟩ | ⟨_, l5, _, hp, rfl, rfl, hP⟩⟩ := hr.cases (pNeed_ne _ _)
  ·have HF := Z_ (Out.bind_bad HT.out hp)
   have HC := Z_ (HAT.out.chg.then hC); clear hr hp hC; go_wp2_with fail
   exact ⟨rfl, Pst.fails HC.out HF.out⟩
  replace HT := Z_ (Out.bind_got HT.out hp); replace HAT := Z_ (HAT.out.call hC hP); replace HL := Z_ (HL.out.call hC); clear hr hp hC hP HN; have hNu := HL.out.nd.lt; replace HR := Z_ (nd_row1 HL.out.dat (by simp [hidB]; omega) 17 0 s (by first | omega | decide) (c := #[.int .i64 ka4, .string ta4, .int .i64 ma4, .slice aa4 na4 ca4]) rfl); have hc := HL.out.nd.cell; simp only [Value.cells] at hc; have hEx := (Chg.refl (fun _ => False) u5).alloc (.cells #[.int .i64 ka4, .string ta4, .int .i64 ma4, .slice aa4 na4 ca4] 66); replace HAT := Z_ (HAT.out.extend hEx); clear hEx; go_wp2_with fail
  refine (node_any _ _ _ _ _ _ _).mono ?_
  rintro e u6 ⟨rfl, hE⟩; replace HAT := Z_ (HAT.out.extend hE); replace HR := Z_ (ndAt_keeps (keeps_chg hE fun _ _ h => h.elim) _ _ HR.out); clear hE hc; have r0 := HAT.out.res.cell; have rf := HAT.out.res.frozen; have rl := HAT.out.res.lt; unfold zeroNd at r0; go_wp2_with fail
  refine ends_at rfl rfl rfl ((((HAT.out.res.set 0 _).set 1 _).set 2 _).set 3 _) Tryz.underlying66 rfl (by kernel_rfl) ?_
  exact ret_value HAT.out (hidB B N) (HR.out) (hidB_yes (by omega)) (fun i hi => hidB_yes (by omega)) (HT.out.symm)
set_option maxRecDepth 100000 in
set_option maxHeartbeats 4000000 in
theorem op_any (s : ByteArray) (w : World) : Calls Tryz.prog 291 #[.string s] w fun e w' => e = .returned (.tuple #[.int .i64 (opOf s).1, .int .i64 (opOf s).2]) ∧ w = w' := by
 by_cases h0 : s = ⟨#[61, 61]⟩
 ·subst h0
  go_enter Tryz.func291, Tryz.ntmps291
  go_wp2_with fail
  go_ret2
  exact ⟨rfl, rfl⟩
 by_cases h1 : s = ⟨#[60]⟩
 ·subst h1
  go_enter Tryz.func291, Tryz.ntmps291
  go_wp2_with fail
  go_ret2
  exact ⟨rfl, rfl⟩
 by_cases h2 : s = ⟨#[43]⟩
 ·subst h2
  go_enter Tryz.func291, Tryz.ntmps291
  go_wp2_with fail
  go_ret2
  exact ⟨rfl, rfl⟩
 by_cases h3 : s = ⟨#[45]⟩
 ·subst h3
  go_enter Tryz.func291, Tryz.ntmps291
  go_wp2_with fail
  go_ret2
  exact ⟨rfl, rfl⟩
 by_cases h4 : s = ⟨#[124]⟩
 ·subst h4
  go_enter Tryz.func291, Tryz.ntmps291
  go_wp2_with fail
  go_ret2
  exact ⟨rfl, rfl⟩
 by_cases h5 : s = ⟨#[42]⟩
 ·subst h5
  go_enter Tryz.func291, Tryz.ntmps291
  go_wp2_with fail
  go_ret2
  exact ⟨rfl, rfl⟩
 by_cases h6 : s = ⟨#[47]⟩
 ·subst h6
  go_enter Tryz.func291, Tryz.ntmps291
  go_wp2_with fail
  go_ret2
  exact ⟨rfl, rfl⟩
 by_cases h7 : s = ⟨#[37]⟩
 ·subst h7
  go_enter Tryz.func291, Tryz.ntmps291
  go_wp2_with fail
  go_ret2
  exact ⟨rfl, rfl⟩
 by_cases h8 : s = ⟨#[38]⟩
 ·subst h8
  go_enter Tryz.func291, Tryz.ntmps291
  go_wp2_with fail
  go_ret2
  exact ⟨rfl, rfl⟩
 have g0 : (s.toList == [61, 61]) = false := by
  have := str_eq (a := s) (b := ⟨#[61, 61]⟩); rw [show ((⟨#[61, 61]⟩ : ByteArray).toList) = [61, 61] by rw [ByteArray.toList_eq]] at this; rw [this]; simpa using h0
 have g1 : (s.toList == [60]) = false := by
  have := str_eq (a := s) (b := ⟨#[60]⟩); rw [show ((⟨#[60]⟩ : ByteArray).toList) = [60] by rw [ByteArray.toList_eq]] at this; rw [this]; simpa using h1
 have g2 : (s.toList == [43]) = false := by
  have := str_eq (a := s) (b := ⟨#[43]⟩); rw [show ((⟨#[43]⟩ : ByteArray).toList) = [43] by rw [ByteArray.toList_eq]] at this; rw [this]; simpa using h2
 have g3 : (s.toList == [45]) = false := by
  have := str_eq (a := s) (b := ⟨#[45]⟩); rw [show ((⟨#[45]⟩ : ByteArray).toList) = [45] by rw [ByteArray.toList_eq]] at this; rw [this]; simpa using h3
 have g4 : (s.toList == [124]) = false := by
  have := str_eq (a := s) (b := ⟨#[124]⟩); rw [show ((⟨#[124]⟩ : ByteArray).toList) = [124] by rw [ByteArray.toList_eq]] at this; rw [this]; simpa using h4
 have g5 : (s.toList == [42]) = false := by
  have := str_eq (a := s) (b := ⟨#[42]⟩); rw [show ((⟨#[42]⟩ : ByteArray).toList) = [42] by rw [ByteArray.toList_eq]] at this; rw [this]; simpa using h5
 have g6 : (s.toList == [47]) = false := by
  have := str_eq (a := s) (b := ⟨#[47]⟩); rw [show ((⟨#[47]⟩ : ByteArray).toList) = [47] by rw [ByteArray.toList_eq]] at this; rw [this]; simpa using h6
 have g7 : (s.toList == [37]) = false := by
  have := str_eq (a := s) (b := ⟨#[37]⟩); rw [show ((⟨#[37]⟩ : ByteArray).toList) = [37] by rw [ByteArray.toList_eq]] at this; rw [this]; simpa using h7
 have g8 : (s.toList == [38]) = false := by
  have := str_eq (a := s) (b := ⟨#[38]⟩); rw [show ((⟨#[38]⟩ : ByteArray).toList) = [38] by rw [ByteArray.toList_eq]] at this; rw [this]; simpa using h8
 have hT : opOf s = (0, -1) := by simp only [opOf, if_neg h0, if_neg h1, if_neg h2, if_neg h3, if_neg h4, if_neg h5, if_neg h6, if_neg h7, if_neg h8]
 rw [hT]; clear hT h0 h1 h2 h3 h4 h5 h6 h7 h8; go_enter Tryz.func291, Tryz.ntmps291
 go_wp2_with fail
 go_ret2
 exact ⟨rfl, rfl⟩
end synw
end Go.Proofs.YtpcihajmcejliabGreatDoor
namespace Go.Proofs.YtpcihajmcejliabGreatDoor
open Go.RowKit
namespace synw
set_option maxRecDepth 100000 in
set_option maxHeartbeats 4000000 in
theorem unary_any {n : Nat} (ih : ∀ m, m ≤ n → Good m) {W w : World} {S E : Nat} {l : List Tk} (h : PrAt W w S E l) (hm : MaxVar W) (hne : prs (n + 1) (.unary) l ≠ .out) :
  Calls Tryz.prog 363 #[.pointer (some ⟨S, 0, none⟩)] w (Pst (VN w.heap.size) W w S E (prs (n + 1) (.unary) l)) := by
 obtain ⟨T, hT⟩ : ∃ T, prs (n + 1) (.unary) l = T := ⟨_, rfl⟩; rw [hT] at hne ⊢; simp only [prs] at hT; have HT := Z_ hT; have HNE := Z_ hne; have HM := Z_ hm; have HAT : Hid (At W w (w.alloc (.cells #[.int .i64 0, .string ⟨#[]⟩, .int .i64 0, .slice none 0 0] 66)) S E w.heap.size l) := Z_ (At.start h); obtain ⟨A, hA⟩ : ∃ A, w.heap.size = A := ⟨_, rfl⟩; rw [hA] at HAT; have hSA : S < A := by have := h.lt; omega
 clear h hm hne hT; go_enter Tryz.func363, Tryz.ntmps363
 go_upto_region 1 with (fail)
 generalize w.alloc (.cells #[.int .i64 0, .string ⟨#[]⟩, .int .i64 0, .slice none 0 0] 66) = u0 at *; have HH := Z_ (have_any HAT.out.pr sMinus); have HLE := Z_ (fun (h : isB l [sMinus] = true) => synm.tail_lt h); generalize isB l [sMinus] = R at *; go_wp2_with fail
 refine HH.out.mono ?_
 rintro e u1 ⟨rfl, hC, hP⟩; cases R with
 | false =>
  replace hP : PrAt W u1 S E l := by simpa using hP
  have HT0 := HT.out; clear HT; simp only [Bool.false_eq_true, ↓reduceIte] at HT0; have HT := Z_ HT0; clear HT0; replace HAT := Z_ (HAT.out.call hC hP); clear hC hP HH HLE; have HH := Z_ (have_any HAT.out.pr sNot); have HLE := Z_ (fun (h : isB l [sNot] = true) => synm.tail_lt h); generalize isB l [sNot] = R at *; go_wp2_with fail
  refine HH.out.mono ?_
  rintro e u2 ⟨rfl, hC, hP⟩; cases R with
  | false =>
   replace hP : PrAt W u2 S E l := by simpa using hP
   have HT0 := HT.out; clear HT; simp only [Bool.false_eq_true, ↓reduceIte] at HT0; have HT := Z_ HT0; clear HT0; replace HAT := Z_ (HAT.out.call hC hP); clear hC hP HH HLE
   have HH := Z_ (is_any (HAT.out.pr.alloc (.cells #[.string sOpen] 9)) u2.heap.size [sOpen] 1 1 rfl (by decide) (fun j hj => by
    obtain rfl : j = 0 := by simpa using hj
    exact (Blk.made u2 #[.string sOpen] 9).cell 0) (by simp))
   have hEx := (Chg.refl (fun _ => False) u2).alloc (.cells #[.string sOpen] 9); replace HAT := Z_ (HAT.out.extend hEx); clear hEx; generalize isB l [sOpen] = R at *; go_wp2_with fail
   refine HH.out.mono ?_
   rintro e u3 ⟨rfl, hE⟩; replace HAT := Z_ (HAT.out.extend hE); clear hE HH; cases R with
   | false =>
    have HT0 := HT.out; clear HT; simp only [Bool.false_eq_true, ↓reduceIte] at HT0; have HT := Z_ HT0; clear HT0; have HH := Z_ (peek_any HAT.out.pr); have hk := hd_kind E l; generalize hdTk E l = tk0 at HH hk; obtain ⟨tk, tt, ta⟩ := tk0; simp only at hk; unfold tkV at HH; go_wp2_with fail
    refine HH.out.mono ?_
    rintro e u4 ⟨rfl, hE⟩; replace HAT := Z_ (HAT.out.extend hE); have hfi := field_kind (.int .i64 tk) (.string tt) (.int .i64 ta) u4; rw [← hk] at HT; clear hE HH hk; by_cases hk2 : tk = 2
    ·subst hk2
     have HT0 := HT.out; clear HT; simp only [↓reduceIte] at HT0; have HT := Z_ HT0; clear HT0; have HAT0 := HAT.out.lt; obtain ⟨B, hB⟩ : ∃ B, u4.heap.size = B := ⟨_, rfl⟩; rw [hB] at HAT0; have HN := Z_ (number_any HAT.out.pr); go_wp2_with fail
     refine HN.out.mono ?_
     rintro e u5 hr; obtain ⟨hC, ⟨lb, hp, rfl⟩ | ⟨x, l5, v, hp, rfl, hv, hP⟩⟩ := hr.cases (by rw [HT.out]; exact HNE.out)
     ·have HF := Z_ (HT.out.symm.trans hp)
      have HC := Z_ (HAT.out.chg.then hC); clear hr hp hC; go_wp2_with fail
      exact ⟨rfl, Pst.fails HC.out HF.out⟩
     replace HT := Z_ (HT.out.symm.trans hp); replace HAT := Z_ (HAT.out.call hC hP); obtain ⟨ka, ta, ma, aa, na, ca, rfl⟩ := nd_form hv; have HV := Z_ (show VN _ _ _ _ from hv); clear hr hp hC hP hv HN; rw [hB] at HV; have r0 := HAT.out.res.cell; have rf := HAT.out.res.frozen; have rl := HAT.out.res.lt; unfold zeroNd at r0; go_wp2_with fail
     refine ends_at rfl rfl rfl ((((HAT.out.res.set 0 _).set 1 _).set 2 _).set 3 _) Tryz.underlying66 rfl (by kernel_rfl) ?_
     exact ret_value HAT.out (below B) (HV.out) (below_yes (by omega)) (fun i hi => below_yes (by omega)) (HT.out)
    ·have HT0 := HT.out
     clear HT; simp only [if_neg hk2] at HT0; have HT := Z_ HT0; clear HT0; have hk3 : (tk == 2) = false := by simpa using hk2
     have HN := Z_ (whole_any HAT.out.pr HM.out); go_wp2_with fail
     refine HN.out.mono ?_
     rintro e u6 hr; obtain ⟨hC, ⟨lb, hp, rfl⟩ | ⟨s6, l6, v, hp, rfl, ⟨rfl, hs⟩, hP⟩⟩ := hr.cases (pWhole_ne _)
     ·have HF := Z_ (Out.bind_bad HT.out hp)
      have HC := Z_ (HAT.out.chg.then hC); clear hr hp hC; go_wp2_with fail
      exact ⟨rfl, Pst.fails HC.out HF.out⟩
     replace HT := Z_ (Out.bind_got HT.out hp); replace HAT := Z_ (HAT.out.call hC hP); have HSZ := Z_ hs; clear hr hp hC hP HN; clear hs
     have HH := Z_ (is_any (HAT.out.pr.alloc (.cells #[.string sOpen] 9)) u6.heap.size [sOpen] 1 1 rfl (by decide) (fun j hj => by
      obtain rfl : j = 0 := by simpa using hj
      exact (Blk.made u6 #[.string sOpen] 9).cell 0) (by simp))
     have hEx := (Chg.refl (fun _ => False) u6).alloc (.cells #[.string sOpen] 9); replace HAT := Z_ (HAT.out.extend hEx); clear hEx; generalize isB l6 [sOpen] = R at *; go_wp2_with fail
     refine HH.out.mono ?_
     rintro e u7 ⟨rfl, hE⟩; replace HAT := Z_ (HAT.out.extend hE); clear hE HH; cases R with
     | false =>
      have HT0 := HT.out; clear HT; simp only [Bool.false_eq_true, ↓reduceIte] at HT0; have HT := Z_ HT0; clear HT0; have HAT0 := HAT.out.lt; obtain ⟨B, hB⟩ : ∃ B, u7.heap.size = B := ⟨_, rfl⟩; rw [hB] at HAT0; have HN := Z_ (ih n (Nat.le_refl _) (.place s6) _ _ HAT.out.pr HM.out rfl HSZ.out (by rw [HT.out]; exact HNE.out)); go_wp2_with fail
      refine HN.out.mono ?_
      rintro e u8 hr; obtain ⟨hC, ⟨lb, hp, rfl⟩ | ⟨x8, l8, v8, hp, rfl, hv, hP⟩⟩ := hr.cases (by rw [HT.out]; exact HNE.out)
      ·have HF := Z_ (HT.out.symm.trans hp)
       have HC := Z_ (HAT.out.chg.then hC); clear hr hp hC; go_wp2_with fail
       exact ⟨rfl, Pst.fails HC.out HF.out⟩
      replace HT := Z_ (HT.out.symm.trans hp); replace HAT := Z_ (HAT.out.call hC hP); obtain ⟨ka8, ta8, ma8, aa8, na8, ca8, rfl⟩ := nd_form hv; have HV8 := Z_ hv; have hsz8 : u7.heap.size ≤ u8.heap.size := hC.size; clear hr hp hC hP hv HN; rw [hB] at HV8; have r0 := HAT.out.res.cell; have rf := HAT.out.res.frozen; have rl := HAT.out.res.lt; unfold zeroNd at r0; go_wp2_with fail
      refine ends_at rfl rfl rfl ((((HAT.out.res.set 0 _).set 1 _).set 2 _).set 3 _) Tryz.underlying66 rfl (by kernel_rfl) ?_
      exact ret_value HAT.out (below B) (HV8.out) (below_yes (by omega)) (fun i hi => below_yes (by omega)) (HT.out)
     | true =>
      have HT0 := HT.out; clear HT; simp only [↓reduceIte] at HT0; have HT := Z_ HT0; clear HT0; have HAT0 := HAT.out.lt; obtain ⟨B, hB⟩ : ∃ B, u7.heap.size = B := ⟨_, rfl⟩; rw [hB] at HAT0; have HN := Z_ (ih n (Nat.le_refl _) (.call s6) _ _ HAT.out.pr HM.out rfl HSZ.out (by rw [HT.out]; exact HNE.out)); go_wp2_with fail
      refine HN.out.mono ?_
      rintro e u9 hr; obtain ⟨hC, ⟨lb, hp, rfl⟩ | ⟨x9, l9, v9, hp, rfl, hv, hP⟩⟩ := hr.cases (by rw [HT.out]; exact HNE.out)
      ·have HF := Z_ (HT.out.symm.trans hp)
       have HC := Z_ (HAT.out.chg.then hC); clear hr hp hC; go_wp2_with fail
       exact ⟨rfl, Pst.fails HC.out HF.out⟩
      replace HT := Z_ (HT.out.symm.trans hp); replace HAT := Z_ (HAT.out.call hC hP); obtain ⟨ka9, ta9, ma9, aa9, na9, ca9, rfl⟩ := nd_form hv; have HV9 := Z_ hv; have hsz9 : u7.heap.size ≤ u9.heap.size := hC.size; clear hr hp hC hP hv HN; rw [hB] at HV9; have r0 := HAT.out.res.cell; have rf := HAT.out.res.frozen; have rl := HAT.out.res.lt; unfold zeroNd at r0; go_wp2_with fail
      refine ends_at rfl rfl rfl ((((HAT.out.res.set 0 _).set 1 _).set 2 _).set 3 _) Tryz.underlying66 rfl (by kernel_rfl) ?_
      exact ret_value HAT.out (below B) (HV9.out) (below_yes (by omega)) (fun i hi => below_yes (by omega)) (HT.out)
   | true =>
    have HT0 := HT.out; clear HT; simp only [↓reduceIte] at HT0; have HT := Z_ HT0; clear HT0; have HAT0 := HAT.out.lt; obtain ⟨B, hB⟩ : ∃ B, u3.heap.size = B := ⟨_, rfl⟩; rw [hB] at HAT0; have HN := Z_ (ih n (Nat.le_refl _) (.asked) _ _ HAT.out.pr HM.out rfl trivial (by rw [HT.out]; exact HNE.out)); go_wp2_with fail
    refine HN.out.mono ?_
    rintro e u10 hr; obtain ⟨hC, ⟨lb, hp, rfl⟩ | ⟨x10, l10, v10, hp, rfl, hv, hP⟩⟩ := hr.cases (by rw [HT.out]; exact HNE.out)
    ·have HF := Z_ (HT.out.symm.trans hp)
     have HC := Z_ (HAT.out.chg.then hC); clear hr hp hC; go_wp2_with fail
     exact ⟨rfl, Pst.fails HC.out HF.out⟩
    replace HT := Z_ (HT.out.symm.trans hp); replace HAT := Z_ (HAT.out.call hC hP); obtain ⟨ka10, ta10, ma10, aa10, na10, ca10, rfl⟩ := nd_form hv; have HV10 := Z_ hv; have hsz10 : u3.heap.size ≤ u10.heap.size := hC.size; clear hr hp hC hP hv HN; rw [hB] at HV10; have r0 := HAT.out.res.cell; have rf := HAT.out.res.frozen; have rl := HAT.out.res.lt; unfold zeroNd at r0; go_wp2_with fail
    refine ends_at rfl rfl rfl ((((HAT.out.res.set 0 _).set 1 _).set 2 _).set 3 _) Tryz.underlying66 rfl (by kernel_rfl) ?_
    exact ret_value HAT.out (below B) (HV10.out) (below_yes (by omega)) (fun i hi => below_yes (by omega)) (HT.out)
  | true =>
   replace hP : PrAt W u2 S E l.tail := by simpa using hP
   have HT0 := HT.out; clear HT; simp only [↓reduceIte] at HT0; have HT := Z_ HT0; clear HT0; replace HAT := Z_ (HAT.out.call hC hP); clear hC hP HH HLE; have HAT0 := HAT.out.lt; obtain ⟨B, hB⟩ : ∃ B, u2.heap.size = B := ⟨_, rfl⟩; rw [hB] at HAT0; have HN := Z_ (ih n (Nat.le_refl _) (.unary) _ _ HAT.out.pr HM.out rfl trivial (Out.bind_ne HT.out HNE.out)); go_wp2_with fail
   refine HN.out.mono ?_
   rintro e u12 hr; obtain ⟨hC, ⟨lb, hp, rfl⟩ | ⟨x12, l12, v12, hp, rfl, hv, hP⟩⟩ := hr.cases (Out.bind_ne HT.out HNE.out)
   ·have HF := Z_ (Out.bind_bad HT.out hp)
    have HC := Z_ (HAT.out.chg.then hC); clear hr hp hC; go_wp2_with fail
    exact ⟨rfl, Pst.fails HC.out HF.out⟩
   replace HT := Z_ (Out.bind_got HT.out hp); replace HAT := Z_ (HAT.out.call hC hP); obtain ⟨ka12, ta12, ma12, aa12, na12, ca12, rfl⟩ := nd_form hv; have HV12 := Z_ hv; have hsz12 : u2.heap.size ≤ u12.heap.size := hC.size; clear hr hp hC hP hv HN; rw [hB] at HV12 hsz12; replace HR := Z_ (nd_row1 HV12.out (by simp [below]; omega) 21 0 noText (by decide) (c := #[.int .i64 ka12, .string ta12, .int .i64 ma12, .slice aa12 na12 ca12]) rfl); have hEx := (Chg.refl (fun _ => False) u12).alloc (.cells #[.int .i64 ka12, .string ta12, .int .i64 ma12, .slice aa12 na12 ca12] 66); replace HAT := Z_ (HAT.out.extend hEx); clear hEx; go_wp2_with fail
   refine (node_any _ _ _ _ _ _ _).mono ?_
   rintro e u13 ⟨rfl, hE⟩; replace HAT := Z_ (HAT.out.extend hE); replace HR := Z_ (ndAt_keeps (keeps_chg hE fun _ _ h => h.elim) _ _ HR.out); clear hE; have r0 := HAT.out.res.cell; have rf := HAT.out.res.frozen; have rl := HAT.out.res.lt; unfold zeroNd at r0; go_wp2_with fail
   refine ends_at rfl rfl rfl ((((HAT.out.res.set 0 _).set 1 _).set 2 _).set 3 _) Tryz.underlying66 rfl (by kernel_rfl) ?_
   exact ret_value HAT.out (below B) (HR.out) (below_yes (by omega)) (fun i hi => below_yes (by omega)) (HT.out.symm)
 | true =>
  replace hP : PrAt W u1 S E l.tail := by simpa using hP
  have HT0 := HT.out; clear HT; simp only [↓reduceIte] at HT0; have HT := Z_ HT0; clear HT0; replace HAT := Z_ (HAT.out.call hC hP); clear hC hP HH HLE; have HAT0 := HAT.out.lt; obtain ⟨B, hB⟩ : ∃ B, u1.heap.size = B := ⟨_, rfl⟩; rw [hB] at HAT0; have HN := Z_ (ih n (Nat.le_refl _) (.unary) _ _ HAT.out.pr HM.out rfl trivial (Out.bind_ne HT.out HNE.out)); go_wp2_with fail
  refine HN.out.mono ?_
  rintro e u15 hr; obtain ⟨hC, ⟨lb, hp, rfl⟩ | ⟨x15, l15, v15, hp, rfl, hv, hP⟩⟩ := hr.cases (Out.bind_ne HT.out HNE.out)
  ·have HF := Z_ (Out.bind_bad HT.out hp)
   have HC := Z_ (HAT.out.chg.then hC); clear hr hp hC; go_wp2_with fail
   exact ⟨rfl, Pst.fails HC.out HF.out⟩
  replace HT := Z_ (Out.bind_got HT.out hp); replace HAT := Z_ (HAT.out.call hC hP); obtain ⟨ka15, ta15, ma15, aa15, na15, ca15, rfl⟩ := nd_form hv; have HV15 := Z_ hv; have hsz15 : u1.heap.size ≤ u15.heap.size := hC.size; clear hr hp hC hP hv HN; rw [hB] at HV15 hsz15; replace HR := Z_ (nd_row1 HV15.out (by simp [below]; omega) 20 0 noText (by decide) (c := #[.int .i64 ka15, .string ta15, .int .i64 ma15, .slice aa15 na15 ca15]) rfl); have hEx := (Chg.refl (fun _ => False) u15).alloc (.cells #[.int .i64 ka15, .string ta15, .int .i64 ma15, .slice aa15 na15 ca15] 66); replace HAT := Z_ (HAT.out.extend hEx); clear hEx; go_wp2_with fail
  refine (node_any _ _ _ _ _ _ _).mono ?_
  rintro e u16 ⟨rfl, hE⟩; replace HAT := Z_ (HAT.out.extend hE); replace HR := Z_ (ndAt_keeps (keeps_chg hE fun _ _ h => h.elim) _ _ HR.out); clear hE; have r0 := HAT.out.res.cell; have rf := HAT.out.res.frozen; have rl := HAT.out.res.lt; unfold zeroNd at r0; go_wp2_with fail
  refine ends_at rfl rfl rfl ((((HAT.out.res.set 0 _).set 1 _).set 2 _).set 3 _) Tryz.underlying66 rfl (by kernel_rfl) ?_
  exact ret_value HAT.out (below B) (HR.out) (below_yes (by omega)) (fun i hi => below_yes (by omega)) (HT.out.symm)
end synw
end Go.Proofs.YtpcihajmcejliabGreatDoor
namespace Go.Proofs.YtpcihajmcejliabGreatDoor
open Go.RowKit
namespace synw
set_option maxRecDepth 100000 in
set_option maxHeartbeats 4000000 in
theorem call_any {n : Nat} (ih : ∀ m, m ≤ n → Good m) {W w : World} {S E : Nat} {l : List Tk} {s : ByteArray} (h : PrAt W w S E l) (hm : MaxVar W) (hs : s.size ≤ 7000) (hne : prs (n + 1) (.call s) l ≠ .out) :
  Calls Tryz.prog 324 #[.pointer (some ⟨S, 0, none⟩), .string s] w (Pst (VN w.heap.size) W w S E (prs (n + 1) (.call s) l)) := by
 obtain ⟨T, hT⟩ : ∃ T, prs (n + 1) (.call s) l = T := ⟨_, rfl⟩; rw [hT] at hne ⊢; simp only [prs] at hT; have HT := Z_ hT; have HNE := Z_ hne; have HM := Z_ hm; have HAT : Hid (At W w (w.alloc (.cells #[.int .i64 0, .string ⟨#[]⟩, .int .i64 0, .slice none 0 0] 66)) S E w.heap.size l) := Z_ (At.start h); obtain ⟨A, hA⟩ : ∃ A, w.heap.size = A := ⟨_, rfl⟩; rw [hA] at HAT; have hSA : S < A := by have := h.lt; omega
 clear h hm hne hT; go_enter Tryz.func324, Tryz.ntmps324
 go_upto_region 1 with (fail)
 generalize w.alloc (.cells #[.int .i64 0, .string ⟨#[]⟩, .int .i64 0, .slice none 0 0] 66) = u0 at *; have HN := Z_ (need_any (HAT.out.pr.alloc (.cells #[.string sOpen] 9)) u0.heap.size 1 sOpen ((Blk.made u0 #[.string sOpen] 9).cell 0)); have hEx := (Chg.refl (fun _ => False) u0).alloc (.cells #[.string sOpen] 9); replace HAT := Z_ (HAT.out.extend hEx); clear hEx; go_wp2_with fail
 refine HN.out.mono ?_
 rintro e u1 hr; obtain ⟨hC, ⟨lb, hp, rfl⟩ | ⟨_, l1, _, hp, rfl, rfl, hP⟩⟩ := hr.cases (pNeed_ne _ _)
 ·have HF := Z_ (Out.bind_bad HT.out hp)
  have HC := Z_ (HAT.out.chg.then hC); clear hr hp hC; go_wp2_with fail
  exact ⟨rfl, Pst.fails HC.out HF.out⟩
 replace HT := Z_ (Out.bind_got HT.out hp); replace HAT := Z_ (HAT.out.call hC hP); clear hr hp hC hP HN; go_wp2_with fail
 refine (node_any _ _ _ _ _ _ _).mono ?_
 rintro e u2 ⟨rfl, hE⟩; replace HAT := Z_ (HAT.out.extend hE); have HB := Z_ ((HAT.out.alloc (.cells #[.int .i64 18, .string s, .int .i64 0, .slice none 0 0] 66)).bld (Blk.made u2 _ _) HAT.out.lt); obtain ⟨N, hN⟩ : ∃ N, u2.heap.size = N := ⟨_, rfl⟩; rw [hN] at HB; clear hE HAT; go_upto_block 0 with (fail)
 generalize u2.alloc (.cells #[.int .i64 18, .string s, .int .i64 0, .slice none 0 0] 66) = v0 at *; go_cut [] (fun w' => ∃ (acc : List Nd) (row : Value) (l2 : List Tk), Hid ((pNeed sClose l2).bind (fun _ l => .got (.mk 18 s 0 acc) l) = T) ∧ Hid (Bld W w w' S E A N l2 18 s 0 row row acc))
 case first =>
  go_wp2_with fail
  go_loopg [] n (fun k wr => ∃ l2 acc row, k ≤ n ∧ Hid (prs k (.args s acc) l2 = T) ∧ Hid (Bld W w wr S E A N l2 18 s 0 row row acc))
  case atStart => exact ⟨l1, [], .slice none 0 0, Nat.le_refl _, HT, HB⟩
  clear HT HB
  case round =>
   obtain ⟨lr, acc, row, hkn, HT, HB⟩ := hrel; cases gk with
   | zero => exact absurd HT.out.symm HNE.out
   | succ m =>
    have HT0 := HT.out; clear HT; simp only [prs] at HT0; have HT := Z_ HT0; clear HT0; have HAT := Z_ HB.out.at; obtain ⟨ra, rc, rfl⟩ := HB.out.slice
    have HH := Z_ (is_any (HAT.out.pr.alloc (.cells #[.string sClose] 9)) wr.heap.size [sClose] 1 1 rfl (by decide) (fun j hj => by
     obtain rfl : j = 0 := by simpa using hj
     exact (Blk.made wr #[.string sClose] 9).cell 0) (by simp))
    have hEx := (Chg.refl (fun _ => False) wr).alloc (.cells #[.string sClose] 9); replace HB := Z_ (HB.out.extend hEx); replace HAT := Z_ HB.out.at; clear hEx; generalize isB lr [sClose] = R at *; go_wp2_with fail
    refine HH.out.mono ?_
    rintro e u3 ⟨rfl, hE⟩; replace HB := Z_ (HB.out.extend hE); replace HAT := Z_ HB.out.at; clear hE HH; cases R with
    | false =>
     have HT0 := HT.out; clear HT; simp only [Bool.false_eq_true, false_and, ↓reduceIte] at HT0; have HT := Z_ HT0; clear HT0; go_upto_region 4 with (fail)
     refine wp_region_weave [3, 4, 5, 7] (fun i v _ => v = ([.pointer (some ⟨N, 3, none⟩), (.slice ra acc.length rc), .pointer (some ⟨S, 0, none⟩), undef, undef, undef, .pointer (some ⟨N, 3, none⟩), undef] : List Value).getD i undef) (PushF W w S E A N lr 18 s 0 (.slice ra acc.length rc) acc (prs m .expr lr)) (fun _ _ => True) (frame := ?fraa) (fun x => ?hfaa) mixed (by kernel_rfl) (by kernel_rfl) (fun _ _ _ _ h _ => h) ?h0a ?sta ?fina
     case hfaa =>
      simp only [chain.frameOf, chain.fill, chain.setOpt, chain.dstOf, List.size_toArray, List.length_cons, List.length_nil, List.getElem?_toArray, List.getElem?_cons_succ, List.getElem?_cons_zero, List.setIfInBounds_toArray, List.set_cons_succ, List.set_cons_zero]; exact rfl
     case h0a => exact HB.out.extend (Chg.refl _ _).drew
     case sta =>
      refine AllFrom.cons (fun x vs u hF hm hb hd K' hK' => ?sa0) (AllFrom.cons (fun x vs u hF hm hb hd K' hK' => ?sa1) (AllFrom.cons (fun x vs u hF hm hb hd K' hK' => ?sa2) (AllFrom.cons (fun x vs u hF hm hb hd K' hK' => ?sa3) (AllFrom.cons (fun x vs u hF hm hb hd K' hK' => ?sa4) (AllFrom.cons (fun x vs u hF hm hb hd K' hK' => ?sa5) (AllFrom.cons (fun x vs u hF hm hb hd K' hK' => ?sa6) (AllFrom.cons (fun x vs u hF hm hb hd K' hK' => ?sa7) (AllFrom.nil))))))))
      case sa0 =>
       have HF := Z_ hF; clear hd hm hb hF; go_simp; exact hK'.out _ _ _ rfl trivial ⟨rfl, HF.out⟩
      case sa1 =>
       have y0 := hd 0 (by decide) (by kernel_rfl); replace y0 : x 21 = .pointer (some ⟨N, 3, none⟩) := y0; have hc := hF.cell (by have := hb 2 _ (by decide) rfl (by kernel_rfl); omega); have HF := Z_ hF; clear hd hm hb hF; go_simp; exact hK'.out _ _ _ (by simp only [y0]; rfl) trivial ⟨rfl, HF.out⟩
      case sa2 =>
       have HF := Z_ hF; clear hd hm hb hF; go_simp; exact hK'.out _ _ _ rfl trivial ⟨rfl, HF.out⟩
      case sa6 =>
       have HF := Z_ hF; clear hd hm hb hF; go_simp; exact hK'.out _ _ _ rfl trivial ⟨rfl, HF.out⟩
      case sa3 =>
       have y0 := hd 2 (by decide) (by kernel_rfl); replace y0 : x 23 = .pointer (some ⟨S, 0, none⟩) := y0; obtain rfl := List.eq_nil_of_length_eq_zero (hm 0 (by kernel_rfl)); have HF := Z_ (show Bld _ _ _ _ _ _ _ _ _ _ _ _ _ _ from hF); clear hd hm hb hF; have HCA := Z_ (ih m (by omega) .expr _ _ HF.out.pr HM.out rfl trivial (Out.bind_ne HT.out HNE.out)); go_simp; refine HCA.out.mono ?_
       rintro e u2 hr; obtain ⟨hC, ⟨lb, hp, rfl⟩ | ⟨xn, ln, v, hp, rfl, hv, hP⟩⟩ := hr.cases (Out.bind_ne HT.out HNE.out)
       ·have HE := Z_ (Out.bind_bad HT.out hp)
        have HC := Z_ (HF.out.chg.then hC); clear hr hp hC hK' HCA; go_wp2_with fail
        exact ⟨rfl, Pst.fails HC.out HE.out⟩
       ·exact hK'.out _ _ _ (by simp only [y0]; rfl) trivial (push_call HF.out hC hp hv hP (synm.prs_lt _ _ _ _ _ hp))
      case sa4 =>
       obtain ⟨v0, rfl⟩ : ∃ v0, vs = [v0] := by match vs, hm 1 (by kernel_rfl) with | [v0], _ => exact ⟨_, rfl⟩
       have y0 := hd 3 (by decide) (by kernel_rfl) 24 (by kernel_rfl); replace y0 : x 24 = v0 := y0; have hcl : ∃ a b c d, v0 = .agg #[a, b, c, d] := by obtain ⟨xn, ln, _, _, _, hx⟩ := hF; obtain ⟨a, b, c, d, h, _⟩ := nd_cells hx; exact ⟨a, b, c, d, h⟩
       obtain ⟨a0, b0, c0, d0, rfl⟩ := hcl; have HF := Z_ hF; clear hd hm hb hF; go_simp; exact hK'.out _ _ _ (by simp only [y0]; rfl) trivial (push_slice HF.out rfl)
      case sa5 =>
       obtain ⟨v0, v1, rfl⟩ : ∃ v0 v1, vs = [v0, v1] := by match vs, hm 2 (by kernel_rfl) with | [v0, v1], _ => exact ⟨_, _, rfl⟩
       have y0 := hd 1 (by decide) (by kernel_rfl); replace y0 : x 22 = (.slice ra acc.length rc) := y0; have y1 := hd 4 (by decide) (by kernel_rfl) 25 (by kernel_rfl); replace y1 : x 25 = v1 := y1; have hF2 := hF; obtain ⟨xn, ln, hT1, hBB, hfew, hx, gg, rfl, hgb, hgr⟩ := hF2; obtain ⟨us, hu1, ho, hu3⟩ := hBB.grow.ex; have hlt := hBB.lt; obtain ⟨i0_, hi_, hz0, hz1, hz2⟩ := info_split info_node; refine wp_append_lies _ _ _ 35 rfl (N + 1) 66 i0_ (.agg #[.int .i64 0, .string ⟨#[]⟩, .int .i64 0, .slice none 0 0]) 4 56 Tryz.underlying35 hi_ hz0 hz1 hz2 rfl (by decide) (.slice ra acc.length rc) acc.length (us.flatMap fun u => u.cells.toList) y0 ho ⟨gg, 0, none⟩ 1 1 v0.cells.toList y1 (by rw [Array.length_toList, nd_size hx]) ?_ (by obtain ⟨a, b, c, d, e, e2, p1, p2, p3, p4⟩ := nd_cells hx; rw [e2]; intro q hq; simp at hq; rcases hq with rfl | rfl | rfl | rfl <;> assumption) (by decide) (by unfold maxLen; omega) (by omega) (by omega) u.heap.size rfl ?_
       ·intro j q hj; have e : (⟨gg, 0, none⟩ : Addr).add j = ⟨gg, j, none⟩ := (by unfold Addr.add; split <;> simp_all); rw [e, hgb.cell]; simpa using hj
       ·intro g9 c9 w9 ho9 hg9 ha9 hl9
        exact hK'.out _ _ _ rfl trivial (push_append hF hu1 hu3 ho9 hg9 ha9)
      case sa7 =>
       obtain ⟨v0, v1, v2, rfl⟩ : ∃ v0 v1 v2, vs = [v0, v1, v2] := by match vs, hm 3 (by kernel_rfl) with | [v0, v1, v2], _ => exact ⟨_, _, _, rfl⟩
       have y0 := hd 6 (by decide) (by kernel_rfl); replace y0 : x 27 = .pointer (some ⟨N, 3, none⟩) := y0; have y1 := hd 5 (by decide) (by kernel_rfl) 26 (by kernel_rfl); replace y1 : x 26 = v2 := y1; have hF2 := hF; obtain ⟨xn, ln, hT1, hBB, gg, cc, rfl⟩ := hF2; have hc := hBB.nd.cell 3; have hf := hBB.nd.frozen 3; have hl := hBB.lt; simp at hc
       have HF := Z_ hF; clear hd hm hb hF hBB hT1; go_simp; exact hK'.out _ _ undef (by simp only [y0, y1]; rfl) trivial (push_store HF.out)
     case fina =>
      intro x vs w9 hl hF hk; obtain ⟨v0, v1, v2, v3, rfl⟩ : ∃ v0 v1 v2 v3, vs = [v0, v1, v2, v3] := by match vs, hl with | [v0, v1, v2, v3], _ => exact ⟨_, _, _, _, rfl⟩
      obtain ⟨xn, ln, hT1, hB9⟩ := hF; clear hk hl; replace HT := Z_ (Out.bind_got HT.out hT1.out); replace HB := Z_ hB9; replace HAT := Z_ HB.out.at; clear hT1 hB9; have HH := Z_ (have_any HAT.out.pr sComma); have HLE := Z_ (fun (h : isB ln [sComma] = true) => synm.tail_lt h); generalize isB ln [sComma] = R at *; go_wp2_with fail
      refine HH.out.mono ?_
      rintro e u4 ⟨rfl, hC, hP⟩; cases R with
      | false =>
       replace hP : PrAt W u4 S E ln := by simpa using hP
       have HT0 := HT.out; clear HT; simp only [Bool.false_eq_true, ↓reduceIte] at HT0; have HT := Z_ HT0; clear HT0; replace HB := Z_ (HB.out.call hC hP (Nat.le_refl _)); replace HAT := Z_ HB.out.at; clear hC hP HH HLE; go_wp2_with fail
       go_meet
       exact ⟨acc ++ [xn], v2, ln, HT, HB⟩
      | true =>
       replace hP : PrAt W u4 S E ln.tail := by simpa using hP
       have HT0 := HT.out; clear HT; simp only [↓reduceIte] at HT0; have HT := Z_ HT0; clear HT0; replace HB := Z_ (HB.out.call hC hP (by have := HLE.out rfl; omega)); replace HAT := Z_ HB.out.at; clear hC hP HH HLE; go_wp2_with fail
       go_roundg m
       case rel => exact ⟨ln.tail, acc ++ [xn], v2, by omega, HT, HB⟩
       case measure => omega
    | true =>
     have c3 := HB.out.nd.cell 3; simp at c3
     by_cases hl0 : acc.length = 0
     ·have HT0 := HT.out
      clear HT; simp only [hl0, and_self, ↓reduceIte] at HT0; have HT := Z_ HT0; clear HT0; have HB2 : Hid (∃ row, Bld W w u3 S E A N lr 18 s 0 row row acc) := Z_ ⟨_, HB.out⟩; clear HB HAT; rw [hl0] at c3; go_wp2_with fail
      go_meet
      obtain ⟨row, HB⟩ := HB2.out; exact ⟨acc, row, lr, HT, Z_ HB⟩
     ·have HT0 := HT.out
      clear HT; simp only [hl0, and_false, ↓reduceIte] at HT0; have HT := Z_ HT0; clear HT0; have hl1 : 0 < acc.length := by omega
      go_upto_region 4 with (fail)
      refine wp_region_weave [3, 4, 5, 7] (fun i v _ => v = ([.pointer (some ⟨N, 3, none⟩), (.slice ra acc.length rc), .pointer (some ⟨S, 0, none⟩), undef, undef, undef, .pointer (some ⟨N, 3, none⟩), undef] : List Value).getD i undef) (PushF W w S E A N lr 18 s 0 (.slice ra acc.length rc) acc (prs m .expr lr)) (fun _ _ => True) (frame := ?frab) (fun x => ?hfab) mixed (by kernel_rfl) (by kernel_rfl) (fun _ _ _ _ h _ => h) ?h0b ?stb ?finb
      case hfab =>
       simp only [chain.frameOf, chain.fill, chain.setOpt, chain.dstOf, List.size_toArray, List.length_cons, List.length_nil, List.getElem?_toArray, List.getElem?_cons_succ, List.getElem?_cons_zero, List.setIfInBounds_toArray, List.set_cons_succ, List.set_cons_zero]; exact rfl
      case h0b => exact HB.out.extend (Chg.refl _ _).drew
      case stb =>
       refine AllFrom.cons (fun x vs u hF hm hb hd K' hK' => ?sb0) (AllFrom.cons (fun x vs u hF hm hb hd K' hK' => ?sb1) (AllFrom.cons (fun x vs u hF hm hb hd K' hK' => ?sb2) (AllFrom.cons (fun x vs u hF hm hb hd K' hK' => ?sb3) (AllFrom.cons (fun x vs u hF hm hb hd K' hK' => ?sb4) (AllFrom.cons (fun x vs u hF hm hb hd K' hK' => ?sb5) (AllFrom.cons (fun x vs u hF hm hb hd K' hK' => ?sb6) (AllFrom.cons (fun x vs u hF hm hb hd K' hK' => ?sb7) (AllFrom.nil))))))))
       case sb0 =>
        have HF := Z_ hF; clear hd hm hb hF; go_simp; exact hK'.out _ _ _ rfl trivial ⟨rfl, HF.out⟩
       case sb1 =>
        have y0 := hd 0 (by decide) (by kernel_rfl); replace y0 : x 21 = .pointer (some ⟨N, 3, none⟩) := y0; have hc := hF.cell (by have := hb 2 _ (by decide) rfl (by kernel_rfl); omega); have HF := Z_ hF; clear hd hm hb hF; go_simp; exact hK'.out _ _ _ (by simp only [y0]; rfl) trivial ⟨rfl, HF.out⟩
       case sb2 =>
        have HF := Z_ hF; clear hd hm hb hF; go_simp; exact hK'.out _ _ _ rfl trivial ⟨rfl, HF.out⟩
       case sb6 =>
        have HF := Z_ hF; clear hd hm hb hF; go_simp; exact hK'.out _ _ _ rfl trivial ⟨rfl, HF.out⟩
       case sb3 =>
        have y0 := hd 2 (by decide) (by kernel_rfl); replace y0 : x 23 = .pointer (some ⟨S, 0, none⟩) := y0; obtain rfl := List.eq_nil_of_length_eq_zero (hm 0 (by kernel_rfl)); have HF := Z_ (show Bld _ _ _ _ _ _ _ _ _ _ _ _ _ _ from hF); clear hd hm hb hF; have HCA := Z_ (ih m (by omega) .expr _ _ HF.out.pr HM.out rfl trivial (Out.bind_ne HT.out HNE.out)); go_simp; refine HCA.out.mono ?_
        rintro e u2 hr; obtain ⟨hC, ⟨lb, hp, rfl⟩ | ⟨xn, ln, v, hp, rfl, hv, hP⟩⟩ := hr.cases (Out.bind_ne HT.out HNE.out)
        ·have HE := Z_ (Out.bind_bad HT.out hp)
         have HC := Z_ (HF.out.chg.then hC); clear hr hp hC hK' HCA; go_wp2_with fail
         exact ⟨rfl, Pst.fails HC.out HE.out⟩
        ·exact hK'.out _ _ _ (by simp only [y0]; rfl) trivial (push_call HF.out hC hp hv hP (synm.prs_lt _ _ _ _ _ hp))
       case sb4 =>
        obtain ⟨v0, rfl⟩ : ∃ v0, vs = [v0] := by match vs, hm 1 (by kernel_rfl) with | [v0], _ => exact ⟨_, rfl⟩
        have y0 := hd 3 (by decide) (by kernel_rfl) 24 (by kernel_rfl); replace y0 : x 24 = v0 := y0; have hcl : ∃ a b c d, v0 = .agg #[a, b, c, d] := by obtain ⟨xn, ln, _, _, _, hx⟩ := hF; obtain ⟨a, b, c, d, h, _⟩ := nd_cells hx; exact ⟨a, b, c, d, h⟩
        obtain ⟨a0, b0, c0, d0, rfl⟩ := hcl; have HF := Z_ hF; clear hd hm hb hF; go_simp; exact hK'.out _ _ _ (by simp only [y0]; rfl) trivial (push_slice HF.out rfl)
       case sb5 =>
        obtain ⟨v0, v1, rfl⟩ : ∃ v0 v1, vs = [v0, v1] := by match vs, hm 2 (by kernel_rfl) with | [v0, v1], _ => exact ⟨_, _, rfl⟩
        have y0 := hd 1 (by decide) (by kernel_rfl); replace y0 : x 22 = (.slice ra acc.length rc) := y0; have y1 := hd 4 (by decide) (by kernel_rfl) 25 (by kernel_rfl); replace y1 : x 25 = v1 := y1; have hF2 := hF; obtain ⟨xn, ln, hT1, hBB, hfew, hx, gg, rfl, hgb, hgr⟩ := hF2; obtain ⟨us, hu1, ho, hu3⟩ := hBB.grow.ex; have hlt := hBB.lt; obtain ⟨i0_, hi_, hz0, hz1, hz2⟩ := info_split info_node; refine wp_append_lies _ _ _ 35 rfl (N + 1) 66 i0_ (.agg #[.int .i64 0, .string ⟨#[]⟩, .int .i64 0, .slice none 0 0]) 4 56 Tryz.underlying35 hi_ hz0 hz1 hz2 rfl (by decide) (.slice ra acc.length rc) acc.length (us.flatMap fun u => u.cells.toList) y0 ho ⟨gg, 0, none⟩ 1 1 v0.cells.toList y1 (by rw [Array.length_toList, nd_size hx]) ?_ (by obtain ⟨a, b, c, d, e, e2, p1, p2, p3, p4⟩ := nd_cells hx; rw [e2]; intro q hq; simp at hq; rcases hq with rfl | rfl | rfl | rfl <;> assumption) (by decide) (by unfold maxLen; omega) (by omega) (by omega) u.heap.size rfl ?_
        ·intro j q hj; have e : (⟨gg, 0, none⟩ : Addr).add j = ⟨gg, j, none⟩ := (by unfold Addr.add; split <;> simp_all); rw [e, hgb.cell]; simpa using hj
        ·intro g9 c9 w9 ho9 hg9 ha9 hl9
         exact hK'.out _ _ _ rfl trivial (push_append hF hu1 hu3 ho9 hg9 ha9)
       case sb7 =>
        obtain ⟨v0, v1, v2, rfl⟩ : ∃ v0 v1 v2, vs = [v0, v1, v2] := by match vs, hm 3 (by kernel_rfl) with | [v0, v1, v2], _ => exact ⟨_, _, _, rfl⟩
        have y0 := hd 6 (by decide) (by kernel_rfl); replace y0 : x 27 = .pointer (some ⟨N, 3, none⟩) := y0; have y1 := hd 5 (by decide) (by kernel_rfl) 26 (by kernel_rfl); replace y1 : x 26 = v2 := y1; have hF2 := hF; obtain ⟨xn, ln, hT1, hBB, gg, cc, rfl⟩ := hF2; have hc := hBB.nd.cell 3; have hf := hBB.nd.frozen 3; have hl := hBB.lt; simp at hc
        have HF := Z_ hF; clear hd hm hb hF hBB hT1; go_simp; exact hK'.out _ _ undef (by simp only [y0, y1]; rfl) trivial (push_store HF.out)
      case finb =>
       intro x vs w9 hl hF hk; obtain ⟨v0, v1, v2, v3, rfl⟩ : ∃ v0 v1 v2 v3, vs = [v0, v1, v2, v3] := by match vs, hl with | [v0, v1, v2, v3], _ => exact ⟨_, _, _, _, rfl⟩
       obtain ⟨xn, ln, hT1, hB9⟩ := hF; clear hk hl; replace HT := Z_ (Out.bind_got HT.out hT1.out); replace HB := Z_ hB9; replace HAT := Z_ HB.out.at; clear hT1 hB9; have HH := Z_ (have_any HAT.out.pr sComma); have HLE := Z_ (fun (h : isB ln [sComma] = true) => synm.tail_lt h); generalize isB ln [sComma] = R at *; go_wp2_with fail
       refine HH.out.mono ?_
       rintro e u4 ⟨rfl, hC, hP⟩; cases R with
       | false =>
        replace hP : PrAt W u4 S E ln := by simpa using hP
        have HT0 := HT.out; clear HT; simp only [Bool.false_eq_true, ↓reduceIte] at HT0; have HT := Z_ HT0; clear HT0; replace HB := Z_ (HB.out.call hC hP (Nat.le_refl _)); replace HAT := Z_ HB.out.at; clear hC hP HH HLE; go_wp2_with fail
        go_meet
        exact ⟨acc ++ [xn], v2, ln, HT, HB⟩
       | true =>
        replace hP : PrAt W u4 S E ln.tail := by simpa using hP
        have HT0 := HT.out; clear HT; simp only [↓reduceIte] at HT0; have HT := Z_ HT0; clear HT0; replace HB := Z_ (HB.out.call hC hP (by have := HLE.out rfl; omega)); replace HAT := Z_ HB.out.at; clear hC hP HH HLE; go_wp2_with fail
        go_roundg m
        case rel => exact ⟨ln.tail, acc ++ [xn], v2, by omega, HT, HB⟩
        case measure => omega
 case rest =>
  clear HT HB; obtain ⟨acc, row, l2, HT, HB⟩ := hcut; have HAT := Z_ HB.out.at; generalize wc = u7 at *; have HN := Z_ (need_any (HAT.out.pr.alloc (.cells #[.string sClose] 9)) u7.heap.size 1 sClose ((Blk.made u7 #[.string sClose] 9).cell 0)); have hEx := (Chg.refl (fun _ => False) u7).alloc (.cells #[.string sClose] 9); replace HB := Z_ (HB.out.extend hEx); replace HAT := Z_ HB.out.at; clear hEx; go_wp2_with fail
  refine HN.out.mono ?_
  rintro e u4 hr; obtain ⟨hC, ⟨lb, hp, rfl⟩ | ⟨_, l4, _, hp, rfl, rfl, hP⟩⟩ := hr.cases (pNeed_ne _ _)
  ·have HF := Z_ (Out.bind_bad HT.out hp)
   have HC := Z_ (HAT.out.chg.then hC); clear hr hp hC; go_wp2_with fail
   exact ⟨rfl, Pst.fails HC.out HF.out⟩
  replace HT := Z_ (Out.bind_got HT.out hp); replace HB := Z_ (HB.out.call hC hP (by have := synm.need_lt hp; omega)); replace HAT := Z_ HB.out.at; clear hr hp hC hP HN; obtain ⟨ra, rn, rc, hrow⟩ := HB.out.slice3
  first | subst hrow | clear hrow
  have c0 := HB.out.nd.cell 0; have c1 := HB.out.nd.cell 1; have c2 := HB.out.nd.cell 2; have c3 := HB.out.nd.cell 3; have r0 := HB.out.res.cell; have rf := HB.out.res.frozen; have rl := HB.out.res.lt; unfold zeroNd at r0; simp at c0 c1 c2 c3
  go_wp2_with fail
  refine ends_at rfl rfl rfl ((((HB.out.res.set 0 _).set 1 _).set 2 _).set 3 _) Tryz.underlying66 rfl (by kernel_rfl) ?_
  exact HB.out.ret (by omega) (HT.out.symm) _ _ _ _
end synw
end Go.Proofs.YtpcihajmcejliabGreatDoor
