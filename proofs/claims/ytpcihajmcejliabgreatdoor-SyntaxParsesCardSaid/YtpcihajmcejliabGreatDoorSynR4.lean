/- The reference's reader: expressions. -/
import Derived.Test.YtpcihajmcejliabGreatDoorSynR3
namespace Go.Proofs.YtpcihajmcejliabGreatDoor
open Go.RowKit
namespace synr
open synw
theorem kind_no {α : Type} {b : Bool} {l : List Tk} {p q T : Out α} (h : stO b l (if kindOf l = 2 then p else q) = T) (hk : b = true ∨ kindOf l ≠ 2) : stO b l q = T := by
  cases b with
  | true => exact h
  | false =>
    rcases hk with hk | hk
    · cases hk
    · rwa [if_neg hk] at h
theorem kind_yes {α : Type} {b : Bool} {l : List Tk} {p q T : Out α} (h : stO b l (if kindOf l = 2 then p else q) = T) (hk : kindOf l = 2) : stO b l p = T := by rwa [if_pos hk] at h
theorem bad_any {α : Type} {l : List Tk} {p q : Out α} {T : Out α} (h : stO true l p = T) : stO true l q = T := h
set_option maxRecDepth 100000 in
set_option maxHeartbeats 4000000 in
theorem asked_step {b0 g0 : Bool} {n : Nat} (dX : RC b0 false n .expr) {W w : World} {S : Nat} {l : List Tk} {b : Bool} (h : RdrAt W w S l b) (hb : b0 = true → b = true) (_hg : g0 = true → b = false) (hne : stO b l (prs (n + 1) (.asked) l) ≠ .out) :
    Calls Tryz.prog 256 #[.pointer (some ⟨S, 0, none⟩)] w (Rst (VN w.heap.size) W w S (stO b l (prs (n + 1) (.asked) l))) := by
  obtain ⟨T, hT⟩ : ∃ T, stO b l (prs (n + 1) (.asked) l) = T := ⟨_, rfl⟩
  rw [hT] at hne ⊢
  simp only [prs] at hT
  have HT := Lib.hid hT
  have HNE := Lib.hid hne
  have HBD := Lib.hid hb
  have HAT : Hid (RAt W w (w.alloc (.cells #[.int .i64 0, .string ⟨#[]⟩, .int .i64 0, .slice none 0 0] 66)) S w.heap.size l b) := Lib.hid (RAt.start h)
  obtain ⟨A, hA⟩ : ∃ A, w.heap.size = A := ⟨_, rfl⟩
  rw [hA] at HAT
  have hSA : S < A := by have := h.lt; omega
  clear h hb _hg hne hT
  go_enter Tryz.func256, Tryz.ntmps256
  go_upto_region 1 with (fail)
  generalize w.alloc (.cells #[.int .i64 0, .string ⟨#[]⟩, .int .i64 0, .slice none 0 0] 66) = u0 at *
  have HN := Lib.hid (must_any HAT.out.pr sOpen (by decide))
  go_wp2_with fail
  refine HN.out.mono ?_
  rintro e u1 ⟨hC, _, _, l1, b1, rfl, rfl, hP, hrel⟩
  replace HT := Lib.hid (now_bind HT.out HNE.out hrel)
  replace HBD := Lib.hid (rel_bad (b0 := b0) hrel (by first | exact HBD.out | exact fun _ => rfl | (intro e; have := HBD.out; simp_all)))
  replace HAT := Lib.hid (HAT.out.call hC hP)
  clear hC hP hrel HN
  have HAT0 := HAT.out.lt
  obtain ⟨B, hB⟩ : ∃ B, u1.heap.size = B := ⟨_, rfl⟩
  rw [hB] at HAT0
  have HN := Lib.hid (dX _ _ HAT.out.pr (by first | exact HBD.out | exact fun _ => rfl | (intro e; have := HBD.out; simp_all)) (fun e => by cases e) rfl trivial (now_ne HT.out HNE.out))
  go_wp2_with fail
  refine HN.out.mono ?_
  rintro e u2 ⟨hC, x2, v2, l2, b2, rfl, hv, hP, hrel⟩
  replace HT := Lib.hid (now_bind HT.out HNE.out hrel)
  replace HBD := Lib.hid (rel_bad (b0 := b0) hrel (by first | exact HBD.out | exact fun _ => rfl | (intro e; have := HBD.out; simp_all)))
  replace HAT := Lib.hid (HAT.out.call hC hP)
  obtain ⟨ka2, ta2, ma2, aa2, na2, ca2, rfl⟩ := nd_form hv
  have HV2 := Lib.hid hv
  have hsz2 : u1.heap.size ≤ u2.heap.size := hC.size
  clear hC hP hrel hv HN
  rw [hB] at HV2 hsz2
  have HL := Lib.hid (Loc.start HV2.out (by omega : S < B) hsz2 (c := #[.int .i64 ka2, .string ta2, .int .i64 ma2, .slice aa2 na2 ca2]) rfl)
  replace HAT := Lib.hid (HAT.out.alloc (.cells #[.int .i64 ka2, .string ta2, .int .i64 ma2, .slice aa2 na2 ca2] 66))
  obtain ⟨N, hN⟩ : ∃ N, u2.heap.size = N := ⟨_, rfl⟩
  have hBN : B ≤ N := hN ▸ hsz2
  rw [hN] at HL
  go_upto_region 3 with (fail)
  generalize u2.alloc (.cells #[.int .i64 ka2, .string ta2, .int .i64 ma2, .slice aa2 na2 ca2] 66) = u9 at *
  have HN := Lib.hid (must_any HAT.out.pr sClose (by decide))
  go_wp2_with fail
  refine HN.out.mono ?_
  rintro e u3 ⟨hC, _, _, l3, b3, rfl, rfl, hP, hrel⟩
  replace HT := Lib.hid (now_bind HT.out HNE.out hrel)
  replace HBD := Lib.hid (rel_bad (b0 := b0) hrel (by first | exact HBD.out | exact fun _ => rfl | (intro e; have := HBD.out; simp_all)))
  replace HAT := Lib.hid (HAT.out.call hC hP)
  replace HL := Lib.hid (HL.out.call hC)
  clear hC hP hrel HN
  have hc := HL.out.nd.cell
  simp only [Value.cells] at hc
  have r0 := HAT.out.res.cell
  have rf := HAT.out.res.frozen
  have rl := HAT.out.res.lt
  unfold zeroNd at r0
  go_wp2_with fail
  refine ends_at rfl rfl rfl ((((HAT.out.res.set 0 _).set 1 _).set 2 _).set 3 _) Tryz.underlying66 rfl (by kernel_rfl) ?_
  first | exact ret_value HAT.out (hidB B N) (HL.out.dat) (hidB_yes (by omega)) (fun i hi => hidB_yes (by omega)) HT.out | (subst hA; exact ret_value HAT.out (hidB B N) (HL.out.dat) (hidB_yes (by omega)) (fun i hi => hidB_yes (by omega)) HT.out)
set_option maxRecDepth 100000 in
set_option maxHeartbeats 4000000 in
theorem place_step {b0 g0 : Bool} {n : Nat} {s : ByteArray} (dX : RC b0 true n .expr) {W w : World} {S : Nat} {l : List Tk} {b : Bool} (h : RdrAt W w S l b) (hb : b0 = true → b = true) (_hg : g0 = true → b = false) (hs : s.size ≤ 7000) (hne : stO b l (prs (n + 1) (.place s) l) ≠ .out) :
    Calls Tryz.prog 261 #[.pointer (some ⟨S, 0, none⟩), .string s] w (Rst (VN w.heap.size) W w S (stO b l (prs (n + 1) (.place s) l))) := by
  obtain ⟨T, hT⟩ : ∃ T, stO b l (prs (n + 1) (.place s) l) = T := ⟨_, rfl⟩
  rw [hT] at hne ⊢
  simp only [prs] at hT
  have HT := Lib.hid hT
  have HNE := Lib.hid hne
  have HBD := Lib.hid hb
  have HAT : Hid (RAt W w (w.alloc (.cells #[.int .i64 0, .string ⟨#[]⟩, .int .i64 0, .slice none 0 0] 66)) S w.heap.size l b) := Lib.hid (RAt.start h)
  obtain ⟨A, hA⟩ : ∃ A, w.heap.size = A := ⟨_, rfl⟩
  rw [hA] at HAT
  have hSA : S < A := by have := h.lt; omega
  clear h hb _hg hne hT
  go_enter Tryz.func261, Tryz.ntmps261
  go_upto_region 1 with (fail)
  generalize w.alloc (.cells #[.int .i64 0, .string ⟨#[]⟩, .int .i64 0, .slice none 0 0] 66) = u0 at *
  have HN := Lib.hid (eat_any HAT.out.pr sBra (by decide))
  have HY := Lib.hid (fun he => now_eat2 HT.out he)
  have HO := Lib.hid (fun he => now_not HT.out he)
  clear HT
  generalize (!b && isB l [sBra]) = R at *
  go_wp2_with fail
  refine HN.out.mono ?_
  rintro e u1 ⟨rfl, hC, hP⟩
  cases R with
  | false =>
    replace hP : RdrAt W u1 S l b := by simpa using hP
    have HT := Lib.hid (HO.out (by trivial))
    replace HAT := Lib.hid (HAT.out.call hC hP)
    clear hC hP HN HY HO
    have HAT0 := HAT.out.lt
    have r0 := HAT.out.res.cell
    have rf := HAT.out.res.frozen
    have rl := HAT.out.res.lt
    unfold zeroNd at r0
    go_wp2_with fail
    refine ends_at rfl rfl rfl ((((HAT.out.res.set 0 _).set 1 _).set 2 _).set 3 _) Tryz.underlying66 rfl (by kernel_rfl) ?_
    first | exact ret_value HAT.out (below (A + 1)) (ndAt_leaf _ _ _ _ (by omega)) (below_yes (by omega)) (fun i hi => below_yes (by omega)) HT.out | (subst hA; exact ret_value HAT.out (below (w.heap.size + 1)) (ndAt_leaf _ _ _ _ (by omega)) (below_yes (by omega)) (fun i hi => below_yes (by omega)) HT.out)
  | true =>
    obtain ⟨hbf, HT0⟩ := HY.out (by trivial)
    subst hbf
    replace hP : RdrAt W u1 S l.tail false := by simpa using hP
    have HT := Lib.hid (HT0 l.tail)
    replace HAT := Lib.hid (HAT.out.call hC hP)
    clear hC hP HN HY HO HT0
    have HAT0 := HAT.out.lt
    obtain ⟨B, hB⟩ : ∃ B, u1.heap.size = B := ⟨_, rfl⟩
    rw [hB] at HAT0
    have HN := Lib.hid (dX _ _ HAT.out.pr (by first | exact HBD.out | exact fun _ => rfl | (intro e; have := HBD.out; simp_all)) (fun _ => rfl) rfl trivial (now_ne HT.out HNE.out))
    go_wp2_with fail
    refine HN.out.mono ?_
    rintro e u2 ⟨hC, x2, v2, l2, b2, rfl, hv, hP, hrel⟩
    replace HT := Lib.hid (now_bind HT.out HNE.out hrel)
    replace HBD := Lib.hid (rel_bad (b0 := b0) hrel (by first | exact HBD.out | exact fun _ => rfl | (intro e; have := HBD.out; simp_all)))
    replace HAT := Lib.hid (HAT.out.call hC hP)
    obtain ⟨ka2, ta2, ma2, aa2, na2, ca2, rfl⟩ := nd_form hv
    have HV2 := Lib.hid hv
    have hsz2 : u1.heap.size ≤ u2.heap.size := hC.size
    clear hC hP hrel hv HN
    rw [hB] at HV2 hsz2
    have HL := Lib.hid (Loc.start HV2.out (by omega : S < B) hsz2 (c := #[.int .i64 ka2, .string ta2, .int .i64 ma2, .slice aa2 na2 ca2]) rfl)
    replace HAT := Lib.hid (HAT.out.alloc (.cells #[.int .i64 ka2, .string ta2, .int .i64 ma2, .slice aa2 na2 ca2] 66))
    obtain ⟨N, hN⟩ : ∃ N, u2.heap.size = N := ⟨_, rfl⟩
    have hBN : B ≤ N := hN ▸ hsz2
    rw [hN] at HL
    go_upto_region 4 with (fail)
    generalize u2.alloc (.cells #[.int .i64 ka2, .string ta2, .int .i64 ma2, .slice aa2 na2 ca2] 66) = u9 at *
    have HN := Lib.hid (must_any HAT.out.pr sKet (by decide))
    go_wp2_with fail
    refine HN.out.mono ?_
    rintro e u3 ⟨hC, _, _, l3, b3, rfl, rfl, hP, hrel⟩
    replace HT := Lib.hid (now_bind HT.out HNE.out hrel)
    replace HBD := Lib.hid (rel_bad (b0 := b0) hrel (by first | exact HBD.out | exact fun _ => rfl | (intro e; have := HBD.out; simp_all)))
    replace HAT := Lib.hid (HAT.out.call hC hP)
    replace HL := Lib.hid (HL.out.call hC)
    clear hC hP hrel HN
    have hNu := HL.out.nd.lt
    have HR := Lib.hid (nd_row1 HL.out.dat (by simp [hidB]; omega) 17 0 s (by first | omega | decide) (c := #[.int .i64 ka2, .string ta2, .int .i64 ma2, .slice aa2 na2 ca2]) rfl)
    have hc := HL.out.nd.cell
    simp only [Value.cells] at hc
    have hEx := (Chg.refl (fun _ => False) u3).alloc (.cells #[.int .i64 ka2, .string ta2, .int .i64 ma2, .slice aa2 na2 ca2] 66)
    replace HAT := Lib.hid (HAT.out.extend hEx)
    clear hEx
    have r0 := HAT.out.res.cell
    have rf := HAT.out.res.frozen
    have rl := HAT.out.res.lt
    unfold zeroNd at r0
    go_wp2_with fail
    refine ends_at rfl rfl rfl ((((HAT.out.res.set 0 _).set 1 _).set 2 _).set 3 _) Tryz.underlying66 rfl (by kernel_rfl) ?_
    first | exact ret_value HAT.out (hidB B N) (HR.out) (hidB_yes (by omega)) (fun i hi => hidB_yes (by omega)) HT.out | (subst hA; exact ret_value HAT.out (hidB B N) (HR.out) (hidB_yes (by omega)) (fun i hi => hidB_yes (by omega)) HT.out)
set_option maxRecDepth 100000 in
set_option maxHeartbeats 4000000 in
theorem expr_step {b0 g0 : Bool} {n : Nat} (dB : RC b0 true n (.bound 0)) {W w : World} {S : Nat} {l : List Tk} {b : Bool} (h : RdrAt W w S l b) (hb : b0 = true → b = true) (_hg : g0 = true → b = false) (hne : stO b l (prs (n + 1) (.expr) l) ≠ .out) :
    Calls Tryz.prog 258 #[.pointer (some ⟨S, 0, none⟩)] w (Rst (VN w.heap.size) W w S (stO b l (prs (n + 1) (.expr) l))) := by
  obtain ⟨T, hT⟩ : ∃ T, stO b l (prs (n + 1) (.expr) l) = T := ⟨_, rfl⟩
  rw [hT] at hne ⊢
  simp only [prs] at hT
  have HT := Lib.hid hT
  have HNE := Lib.hid hne
  have HBD := Lib.hid hb
  have HAT : Hid (RAt W w (w.alloc (.cells #[.int .i64 0, .string ⟨#[]⟩, .int .i64 0, .slice none 0 0] 66)) S w.heap.size l b) := Lib.hid (RAt.start h)
  obtain ⟨A, hA⟩ : ∃ A, w.heap.size = A := ⟨_, rfl⟩
  rw [hA] at HAT
  have hSA : S < A := by have := h.lt; omega
  clear h hb _hg hne hT
  go_enter Tryz.func258, Tryz.ntmps258
  go_upto_region 1 with (fail)
  generalize w.alloc (.cells #[.int .i64 0, .string ⟨#[]⟩, .int .i64 0, .slice none 0 0] 66) = u0 at *
  obtain ⟨ra_, rn_, rc_, rk_, hbk, -, -⟩ := rdr_blk HAT.out.pr
  have c2 := hbk.cell 2
  simp at c2
  clear hbk
  cases b with
  | false =>
    have HAT0 := HAT.out.lt
    obtain ⟨B, hB⟩ : ∃ B, u0.heap.size = B := ⟨_, rfl⟩
    rw [hB] at HAT0
    have HN := Lib.hid (dB _ _ HAT.out.pr (by first | exact HBD.out | exact fun _ => rfl | (intro e; have := HBD.out; simp_all)) (fun _ => rfl) rfl (Nat.zero_le _) (by rw [HT.out]; exact HNE.out))
    go_wp2_with fail
    refine HN.out.mono ?_
    rintro e u1 ⟨hC, x1, v1, l1, b1, rfl, hv, hP, hrel⟩
    replace HT := Lib.hid (now_tail HT.out HNE.out hrel)
    replace HBD := Lib.hid (rel_bad (b0 := b0) hrel (by first | exact HBD.out | exact fun _ => rfl | (intro e; have := HBD.out; simp_all)))
    replace HAT := Lib.hid (HAT.out.call hC hP)
    obtain ⟨ka1, ta1, ma1, aa1, na1, ca1, rfl⟩ := nd_form hv
    have HV1 := Lib.hid hv
    have hsz1 : u0.heap.size ≤ u1.heap.size := hC.size
    clear hC hP hrel hv HN
    rw [hB] at HV1
    have r0 := HAT.out.res.cell
    have rf := HAT.out.res.frozen
    have rl := HAT.out.res.lt
    unfold zeroNd at r0
    go_wp2_with fail
    refine ends_at rfl rfl rfl ((((HAT.out.res.set 0 _).set 1 _).set 2 _).set 3 _) Tryz.underlying66 rfl (by kernel_rfl) ?_
    first | exact ret_value HAT.out (below B) (HV1.out) (below_yes (by omega)) (fun i hi => below_yes (by omega)) HT.out | (subst hA; exact ret_value HAT.out (below B) (HV1.out) (below_yes (by omega)) (fun i hi => below_yes (by omega)) HT.out)
  | true =>
    have HAT0 := HAT.out.lt
    replace HT := Lib.hid (bad_any (q := .got (.mk 0 noText 0 []) l) HT.out)
    have r0 := HAT.out.res.cell
    have rf := HAT.out.res.frozen
    have rl := HAT.out.res.lt
    unfold zeroNd at r0
    go_wp2_with fail
    refine ends_at rfl rfl rfl ((((HAT.out.res.set 0 _).set 1 _).set 2 _).set 3 _) Tryz.underlying66 rfl (by kernel_rfl) ?_
    first | exact ret_value HAT.out (below (A + 1)) (ndAt_leaf _ _ _ _ (by decide)) (below_yes (by omega)) (fun i hi => below_yes (by omega)) HT.out | (subst hA; exact ret_value HAT.out (below (w.heap.size + 1)) (ndAt_leaf _ _ _ _ (by decide)) (below_yes (by omega)) (fun i hi => below_yes (by omega)) HT.out)
set_option maxRecDepth 100000 in
set_option maxHeartbeats 4000000 in
theorem unary_step {b0 g0 : Bool} {n : Nat} (dU : RC b0 true n .unary) (dA : RC b0 true n .asked) (dC : ∀ s, RC b0 true n (.call s)) (dP : ∀ s, RC b0 false n (.place s)) {W w : World} {S : Nat} {l : List Tk} {b : Bool} (h : RdrAt W w S l b) (hb : b0 = true → b = true) (_hg : g0 = true → b = false) (hne : stO b l (prs (n + 1) (.unary) l) ≠ .out) :
    Calls Tryz.prog 328 #[.pointer (some ⟨S, 0, none⟩)] w (Rst (VN w.heap.size) W w S (stO b l (prs (n + 1) (.unary) l))) := by
  obtain ⟨T, hT⟩ : ∃ T, stO b l (prs (n + 1) (.unary) l) = T := ⟨_, rfl⟩
  rw [hT] at hne ⊢
  simp only [prs] at hT
  have HT := Lib.hid hT
  have HNE := Lib.hid hne
  have HBD := Lib.hid hb
  have HAT : Hid (RAt W w (w.alloc (.cells #[.int .i64 0, .string ⟨#[]⟩, .int .i64 0, .slice none 0 0] 66)) S w.heap.size l b) := Lib.hid (RAt.start h)
  obtain ⟨A, hA⟩ : ∃ A, w.heap.size = A := ⟨_, rfl⟩
  rw [hA] at HAT
  have hSA : S < A := by have := h.lt; omega
  clear h hb _hg hne hT
  go_enter Tryz.func328, Tryz.ntmps328
  go_upto_region 1 with (fail)
  generalize w.alloc (.cells #[.int .i64 0, .string ⟨#[]⟩, .int .i64 0, .slice none 0 0] 66) = u0 at *
  have HN := Lib.hid (eat_any HAT.out.pr sMinus (by decide))
  have HY := Lib.hid (fun he => now_eat2 HT.out he)
  have HO := Lib.hid (fun he => now_not HT.out he)
  clear HT
  generalize (!b && isB l [sMinus]) = R at *
  go_wp2_with fail
  refine HN.out.mono ?_
  rintro e u1 ⟨rfl, hC, hP⟩
  cases R with
  | false =>
    replace hP : RdrAt W u1 S l b := by simpa using hP
    have HT := Lib.hid (HO.out (by trivial))
    replace HAT := Lib.hid (HAT.out.call hC hP)
    clear hC hP HN HY HO
    have HN := Lib.hid (eat_any HAT.out.pr sNot (by decide))
    have HY := Lib.hid (fun he => now_eat2 HT.out he)
    have HO := Lib.hid (fun he => now_not HT.out he)
    clear HT
    generalize (!b && isB l [sNot]) = R at *
    go_wp2_with fail
    refine HN.out.mono ?_
    rintro e u2 ⟨rfl, hC, hP⟩
    cases R with
    | false =>
      replace hP : RdrAt W u2 S l b := by simpa using hP
      have HT := Lib.hid (HO.out (by trivial))
      replace HAT := Lib.hid (HAT.out.call hC hP)
      clear hC hP HN HY HO
      have HN := Lib.hid (text_is HAT.out.pr sOpen (by decide) (q := [40]) rfl)
      have HY := Lib.hid (fun he => now_eat2 HT.out he)
      have HO := Lib.hid (fun he => now_not HT.out he)
      clear HT
      generalize (!b && isB l [sOpen]) = R at *
      go_wp2_with fail
      refine HN.out.mono ?_
      rintro e u3 ⟨xt, rfl, hst, hE⟩
      replace HAT := Lib.hid (HAT.out.extend hE)
      clear hE HN
      cases R with
      | false =>
        have HT := Lib.hid (HO.out (by trivial))
        clear HY HO
        obtain ⟨ra, rn, rc, rk, hbk, hk1, hk2, hk3⟩ := HAT.out.pr.ex
        have c0 := hbk.cell 0
        have c1 := hbk.cell 1
        have c2 := hbk.cell 2
        simp at c0 c1 c2
        clear hbk
        cases b with
        | false =>
          cases l with
          | nil =>
            replace HT := Lib.hid (kind_no HT.out (.inr (by decide)))
            simp only [List.length_nil, Nat.add_zero] at hk1
            subst hk1
            have hge : ¬ ((rk : Int) < (rk : Int)) := Int.lt_irrefl _
            have hge2 : decide (rk < rk) = false := by simp
            have hge3 : decide ((rk : Int) < (rk : Int)) = false := by simp
            clear hk3
            go_wp2_with fail
            go_quiet (fail)
            replace HAT := Lib.hid (HAT.out.extend ((Chg.refl _ _).drewN nq))
            generalize u3.drewN nq = uq at *
            clear c0 c1 c2
            have HN := Lib.hid (whole_any HAT.out.pr)
            go_wp2_with fail
            refine HN.out.mono ?_
            rintro e u4 ⟨hC, s4, v, l4, b4, rfl, ⟨rfl, hss4⟩, hP, hrel⟩
            replace HT := Lib.hid (now_bind HT.out HNE.out hrel)
            replace HBD := Lib.hid (rel_bad (b0 := b0) hrel (by first | exact HBD.out | exact fun _ => rfl | (intro e; have := HBD.out; simp_all)))
            replace HAT := Lib.hid (HAT.out.call hC hP)
            clear hC hP hrel HN
            have HN := Lib.hid (text_is HAT.out.pr sOpen (by decide) (q := [40]) rfl)
            have HY := Lib.hid (fun he => now_eat2 HT.out he)
            have HO := Lib.hid (fun he => now_not HT.out he)
            clear HT
            generalize (!b4 && isB l4 [sOpen]) = R at *
            go_wp2_with fail
            refine HN.out.mono ?_
            rintro e u5 ⟨xt, rfl, hst, hE⟩
            replace HAT := Lib.hid (HAT.out.extend hE)
            clear hE HN
            cases R with
            | false =>
              have HT := Lib.hid (HO.out (by trivial))
              clear HY HO
              have HAT0 := HAT.out.lt
              obtain ⟨B, hB⟩ : ∃ B, u5.heap.size = B := ⟨_, rfl⟩
              rw [hB] at HAT0
              have HN := Lib.hid ((dP s4) _ _ HAT.out.pr (by first | exact HBD.out | exact fun _ => rfl | (intro e; have := HBD.out; simp_all)) (fun e => by cases e) rfl hss4 (by rw [HT.out]; exact HNE.out))
              go_wp2_with fail
              refine HN.out.mono ?_
              rintro e u6 ⟨hC, x6, v6, l6, b6, rfl, hv, hP, hrel⟩
              replace HT := Lib.hid (now_tail HT.out HNE.out hrel)
              replace HBD := Lib.hid (rel_bad (b0 := b0) hrel (by first | exact HBD.out | exact fun _ => rfl | (intro e; have := HBD.out; simp_all)))
              replace HAT := Lib.hid (HAT.out.call hC hP)
              obtain ⟨ka6, ta6, ma6, aa6, na6, ca6, rfl⟩ := nd_form hv
              have HV6 := Lib.hid hv
              have hsz6 : u5.heap.size ≤ u6.heap.size := hC.size
              clear hC hP hrel hv HN
              rw [hB] at HV6
              have r0 := HAT.out.res.cell
              have rf := HAT.out.res.frozen
              have rl := HAT.out.res.lt
              unfold zeroNd at r0
              go_wp2_with fail
              refine ends_at rfl rfl rfl ((((HAT.out.res.set 0 _).set 1 _).set 2 _).set 3 _) Tryz.underlying66 rfl (by kernel_rfl) ?_
              first | exact ret_value HAT.out (below B) (HV6.out) (below_yes (by omega)) (fun i hi => below_yes (by omega)) HT.out | (subst hA; exact ret_value HAT.out (below B) (HV6.out) (below_yes (by omega)) (fun i hi => below_yes (by omega)) HT.out)
            | true =>
              obtain ⟨hbf, HT0⟩ := HY.out (by trivial)
              subst hbf
              have HT := Lib.hid (HT0 l4)
              clear HY HO HT0
              have HAT0 := HAT.out.lt
              obtain ⟨B, hB⟩ : ∃ B, u5.heap.size = B := ⟨_, rfl⟩
              rw [hB] at HAT0
              have HN := Lib.hid ((dC s4) _ _ HAT.out.pr (by first | exact HBD.out | exact fun _ => rfl | (intro e; have := HBD.out; simp_all)) (fun _ => rfl) rfl hss4 (by rw [HT.out]; exact HNE.out))
              go_wp2_with fail
              refine HN.out.mono ?_
              rintro e u7 ⟨hC, x7, v7, l7, b7, rfl, hv, hP, hrel⟩
              replace HT := Lib.hid (now_tail HT.out HNE.out hrel)
              replace HBD := Lib.hid (rel_bad (b0 := b0) hrel (by first | exact HBD.out | exact fun _ => rfl | (intro e; have := HBD.out; simp_all)))
              replace HAT := Lib.hid (HAT.out.call hC hP)
              obtain ⟨ka7, ta7, ma7, aa7, na7, ca7, rfl⟩ := nd_form hv
              have HV7 := Lib.hid hv
              have hsz7 : u5.heap.size ≤ u7.heap.size := hC.size
              clear hC hP hrel hv HN
              rw [hB] at HV7
              have r0 := HAT.out.res.cell
              have rf := HAT.out.res.frozen
              have rl := HAT.out.res.lt
              unfold zeroNd at r0
              go_wp2_with fail
              refine ends_at rfl rfl rfl ((((HAT.out.res.set 0 _).set 1 _).set 2 _).set 3 _) Tryz.underlying66 rfl (by kernel_rfl) ?_
              first | exact ret_value HAT.out (below B) (HV7.out) (below_yes (by omega)) (fun i hi => below_yes (by omega)) HT.out | (subst hA; exact ret_value HAT.out (below B) (HV7.out) (below_yes (by omega)) (fun i hi => below_yes (by omega)) HT.out)
          | cons t r =>
            obtain ⟨tq, tp, rfl, hbb, ht⟩ := hk3 0 (by simp)
            obtain ⟨t0, -, -, -⟩ := ht
            have e : ∀ i, u3.cell? ⟨tq, i, none⟩ = W.cell? ⟨tq, i, none⟩ := fun i => HAT.out.pr.ext.cell (by exact hbb) id
            have hbW := Nat.lt_of_lt_of_le hbb HAT.out.pr.ext.size
            rw [← e] at t0
            simp only [Nat.add_zero, List.getElem_cons_zero] at t0
            have hkn : (rk : Int) < (rn : Int) := by simp at hk1; omega
            have hkn2 : ¬ ((rn : Int) ≤ (rk : Int)) := by omega
            have hkn3 : decide (rk < rn) = true := by simp; omega
            obtain ⟨tk, tt, ta⟩ := t
            simp only at t0
            clear hk3 e hk1 hbb
            by_cases hk : tk = 2
            · subst hk
              replace HT := Lib.hid (kind_yes HT.out rfl)
              go_wp2_with fail
              go_quiet (fail)
              replace HAT := Lib.hid (HAT.out.extend ((Chg.refl _ _).drewN nq))
              generalize u3.drewN nq = uq at *
              clear c0 c1 c2 t0
              have HAT0 := HAT.out.lt
              obtain ⟨B, hB⟩ : ∃ B, uq.heap.size = B := ⟨_, rfl⟩
              rw [hB] at HAT0
              have HN := Lib.hid (number_any HAT.out.pr)
              go_wp2_with fail
              refine HN.out.mono ?_
              rintro e u8 ⟨hC, x8, v8, l8, b8, rfl, hv, hP, hrel⟩
              replace hrel : Rel (stO false (⟨2, tt, ta⟩ :: r) (pNumber (⟨2, tt, ta⟩ :: r))) x8 l8 b8 := hrel
              replace HT := Lib.hid (now_tail HT.out HNE.out hrel)
              replace HBD := Lib.hid (rel_bad (b0 := b0) hrel (by first | exact HBD.out | exact fun _ => rfl | (intro e; have := HBD.out; simp_all)))
              replace HAT := Lib.hid (HAT.out.call hC hP)
              obtain ⟨ka8, ta8, ma8, aa8, na8, ca8, rfl⟩ := nd_form hv
              have HV8 := Lib.hid hv
              clear hC hP hrel hv HN
              rw [hB] at HV8
              have r0 := HAT.out.res.cell
              have rf := HAT.out.res.frozen
              have rl := HAT.out.res.lt
              unfold zeroNd at r0
              go_wp2_with fail
              refine ends_at rfl rfl rfl ((((HAT.out.res.set 0 _).set 1 _).set 2 _).set 3 _) Tryz.underlying66 rfl (by kernel_rfl) ?_
              first | exact ret_value HAT.out (below B) (HV8.out) (below_yes (by omega)) (fun i hi => below_yes (by omega)) HT.out | (subst hA; exact ret_value HAT.out (below B) (HV8.out) (below_yes (by omega)) (fun i hi => below_yes (by omega)) HT.out)
            · have hk2 : (tk == 2) = false := by simpa using hk
              replace HT := Lib.hid (kind_no HT.out (.inr hk))
              go_wp2_with fail
              go_quiet (fail)
              replace HAT := Lib.hid (HAT.out.extend ((Chg.refl _ _).drewN nq))
              generalize u3.drewN nq = uq at *
              clear c0 c1 c2 t0
              have HN := Lib.hid (whole_any HAT.out.pr)
              go_wp2_with fail
              refine HN.out.mono ?_
              rintro e u9 ⟨hC, s9, v, l9, b9, rfl, ⟨rfl, hss9⟩, hP, hrel⟩
              replace HT := Lib.hid (now_bind HT.out HNE.out hrel)
              replace HBD := Lib.hid (rel_bad (b0 := b0) hrel (by first | exact HBD.out | exact fun _ => rfl | (intro e; have := HBD.out; simp_all)))
              replace HAT := Lib.hid (HAT.out.call hC hP)
              clear hC hP hrel HN
              have HN := Lib.hid (text_is HAT.out.pr sOpen (by decide) (q := [40]) rfl)
              have HY := Lib.hid (fun he => now_eat2 HT.out he)
              have HO := Lib.hid (fun he => now_not HT.out he)
              clear HT
              generalize (!b9 && isB l9 [sOpen]) = R at *
              go_wp2_with fail
              refine HN.out.mono ?_
              rintro e u10 ⟨xt, rfl, hst, hE⟩
              replace HAT := Lib.hid (HAT.out.extend hE)
              clear hE HN
              cases R with
              | false =>
                have HT := Lib.hid (HO.out (by trivial))
                clear HY HO
                have HAT0 := HAT.out.lt
                obtain ⟨B, hB⟩ : ∃ B, u10.heap.size = B := ⟨_, rfl⟩
                rw [hB] at HAT0
                have HN := Lib.hid ((dP s9) _ _ HAT.out.pr (by first | exact HBD.out | exact fun _ => rfl | (intro e; have := HBD.out; simp_all)) (fun e => by cases e) rfl hss9 (by rw [HT.out]; exact HNE.out))
                go_wp2_with fail
                refine HN.out.mono ?_
                rintro e u11 ⟨hC, x11, v11, l11, b11, rfl, hv, hP, hrel⟩
                replace HT := Lib.hid (now_tail HT.out HNE.out hrel)
                replace HBD := Lib.hid (rel_bad (b0 := b0) hrel (by first | exact HBD.out | exact fun _ => rfl | (intro e; have := HBD.out; simp_all)))
                replace HAT := Lib.hid (HAT.out.call hC hP)
                obtain ⟨ka11, ta11, ma11, aa11, na11, ca11, rfl⟩ := nd_form hv
                have HV11 := Lib.hid hv
                have hsz11 : u10.heap.size ≤ u11.heap.size := hC.size
                clear hC hP hrel hv HN
                rw [hB] at HV11
                have r0 := HAT.out.res.cell
                have rf := HAT.out.res.frozen
                have rl := HAT.out.res.lt
                unfold zeroNd at r0
                go_wp2_with fail
                refine ends_at rfl rfl rfl ((((HAT.out.res.set 0 _).set 1 _).set 2 _).set 3 _) Tryz.underlying66 rfl (by kernel_rfl) ?_
                first | exact ret_value HAT.out (below B) (HV11.out) (below_yes (by omega)) (fun i hi => below_yes (by omega)) HT.out | (subst hA; exact ret_value HAT.out (below B) (HV11.out) (below_yes (by omega)) (fun i hi => below_yes (by omega)) HT.out)
              | true =>
                obtain ⟨hbf, HT0⟩ := HY.out (by trivial)
                subst hbf
                have HT := Lib.hid (HT0 l9)
                clear HY HO HT0
                have HAT0 := HAT.out.lt
                obtain ⟨B, hB⟩ : ∃ B, u10.heap.size = B := ⟨_, rfl⟩
                rw [hB] at HAT0
                have HN := Lib.hid ((dC s9) _ _ HAT.out.pr (by first | exact HBD.out | exact fun _ => rfl | (intro e; have := HBD.out; simp_all)) (fun _ => rfl) rfl hss9 (by rw [HT.out]; exact HNE.out))
                go_wp2_with fail
                refine HN.out.mono ?_
                rintro e u12 ⟨hC, x12, v12, l12, b12, rfl, hv, hP, hrel⟩
                replace HT := Lib.hid (now_tail HT.out HNE.out hrel)
                replace HBD := Lib.hid (rel_bad (b0 := b0) hrel (by first | exact HBD.out | exact fun _ => rfl | (intro e; have := HBD.out; simp_all)))
                replace HAT := Lib.hid (HAT.out.call hC hP)
                obtain ⟨ka12, ta12, ma12, aa12, na12, ca12, rfl⟩ := nd_form hv
                have HV12 := Lib.hid hv
                have hsz12 : u10.heap.size ≤ u12.heap.size := hC.size
                clear hC hP hrel hv HN
                rw [hB] at HV12
                have r0 := HAT.out.res.cell
                have rf := HAT.out.res.frozen
                have rl := HAT.out.res.lt
                unfold zeroNd at r0
                go_wp2_with fail
                refine ends_at rfl rfl rfl ((((HAT.out.res.set 0 _).set 1 _).set 2 _).set 3 _) Tryz.underlying66 rfl (by kernel_rfl) ?_
                first | exact ret_value HAT.out (below B) (HV12.out) (below_yes (by omega)) (fun i hi => below_yes (by omega)) HT.out | (subst hA; exact ret_value HAT.out (below B) (HV12.out) (below_yes (by omega)) (fun i hi => below_yes (by omega)) HT.out)
        | true =>
          replace HT := Lib.hid (kind_no HT.out (.inl rfl))
          clear hk3 hk1
          go_wp2_with fail
          go_quiet (fail)
          replace HAT := Lib.hid (HAT.out.extend ((Chg.refl _ _).drewN nq))
          generalize u3.drewN nq = uq at *
          clear c0 c1 c2
          have HN := Lib.hid (whole_any HAT.out.pr)
          go_wp2_with fail
          refine HN.out.mono ?_
          rintro e u13 ⟨hC, s13, v, l13, b13, rfl, ⟨rfl, hss13⟩, hP, hrel⟩
          replace HT := Lib.hid (now_bind HT.out HNE.out hrel)
          replace HBD := Lib.hid (rel_bad (b0 := b0) hrel (by first | exact HBD.out | exact fun _ => rfl | (intro e; have := HBD.out; simp_all)))
          replace HAT := Lib.hid (HAT.out.call hC hP)
          clear hC hP hrel HN
          have HN := Lib.hid (text_is HAT.out.pr sOpen (by decide) (q := [40]) rfl)
          have HY := Lib.hid (fun he => now_eat2 HT.out he)
          have HO := Lib.hid (fun he => now_not HT.out he)
          clear HT
          generalize (!b13 && isB l13 [sOpen]) = R at *
          go_wp2_with fail
          refine HN.out.mono ?_
          rintro e u14 ⟨xt, rfl, hst, hE⟩
          replace HAT := Lib.hid (HAT.out.extend hE)
          clear hE HN
          cases R with
          | false =>
            have HT := Lib.hid (HO.out (by trivial))
            clear HY HO
            have HAT0 := HAT.out.lt
            obtain ⟨B, hB⟩ : ∃ B, u14.heap.size = B := ⟨_, rfl⟩
            rw [hB] at HAT0
            have HN := Lib.hid ((dP s13) _ _ HAT.out.pr (by first | exact HBD.out | exact fun _ => rfl | (intro e; have := HBD.out; simp_all)) (fun e => by cases e) rfl hss13 (by rw [HT.out]; exact HNE.out))
            go_wp2_with fail
            refine HN.out.mono ?_
            rintro e u15 ⟨hC, x15, v15, l15, b15, rfl, hv, hP, hrel⟩
            replace HT := Lib.hid (now_tail HT.out HNE.out hrel)
            replace HBD := Lib.hid (rel_bad (b0 := b0) hrel (by first | exact HBD.out | exact fun _ => rfl | (intro e; have := HBD.out; simp_all)))
            replace HAT := Lib.hid (HAT.out.call hC hP)
            obtain ⟨ka15, ta15, ma15, aa15, na15, ca15, rfl⟩ := nd_form hv
            have HV15 := Lib.hid hv
            have hsz15 : u14.heap.size ≤ u15.heap.size := hC.size
            clear hC hP hrel hv HN
            rw [hB] at HV15
            have r0 := HAT.out.res.cell
            have rf := HAT.out.res.frozen
            have rl := HAT.out.res.lt
            unfold zeroNd at r0
            go_wp2_with fail
            refine ends_at rfl rfl rfl ((((HAT.out.res.set 0 _).set 1 _).set 2 _).set 3 _) Tryz.underlying66 rfl (by kernel_rfl) ?_
            first | exact ret_value HAT.out (below B) (HV15.out) (below_yes (by omega)) (fun i hi => below_yes (by omega)) HT.out | (subst hA; exact ret_value HAT.out (below B) (HV15.out) (below_yes (by omega)) (fun i hi => below_yes (by omega)) HT.out)
          | true =>
            obtain ⟨hbf, HT0⟩ := HY.out (by trivial)
            subst hbf
            have HT := Lib.hid (HT0 l13)
            clear HY HO HT0
            have HAT0 := HAT.out.lt
            obtain ⟨B, hB⟩ : ∃ B, u14.heap.size = B := ⟨_, rfl⟩
            rw [hB] at HAT0
            have HN := Lib.hid ((dC s13) _ _ HAT.out.pr (by first | exact HBD.out | exact fun _ => rfl | (intro e; have := HBD.out; simp_all)) (fun _ => rfl) rfl hss13 (by rw [HT.out]; exact HNE.out))
            go_wp2_with fail
            refine HN.out.mono ?_
            rintro e u16 ⟨hC, x16, v16, l16, b16, rfl, hv, hP, hrel⟩
            replace HT := Lib.hid (now_tail HT.out HNE.out hrel)
            replace HBD := Lib.hid (rel_bad (b0 := b0) hrel (by first | exact HBD.out | exact fun _ => rfl | (intro e; have := HBD.out; simp_all)))
            replace HAT := Lib.hid (HAT.out.call hC hP)
            obtain ⟨ka16, ta16, ma16, aa16, na16, ca16, rfl⟩ := nd_form hv
            have HV16 := Lib.hid hv
            have hsz16 : u14.heap.size ≤ u16.heap.size := hC.size
            clear hC hP hrel hv HN
            rw [hB] at HV16
            have r0 := HAT.out.res.cell
            have rf := HAT.out.res.frozen
            have rl := HAT.out.res.lt
            unfold zeroNd at r0
            go_wp2_with fail
            refine ends_at rfl rfl rfl ((((HAT.out.res.set 0 _).set 1 _).set 2 _).set 3 _) Tryz.underlying66 rfl (by kernel_rfl) ?_
            first | exact ret_value HAT.out (below B) (HV16.out) (below_yes (by omega)) (fun i hi => below_yes (by omega)) HT.out | (subst hA; exact ret_value HAT.out (below B) (HV16.out) (below_yes (by omega)) (fun i hi => below_yes (by omega)) HT.out)
      | true =>
        obtain ⟨hbf, HT0⟩ := HY.out (by trivial)
        subst hbf
        have HT := Lib.hid (HT0 l)
        clear HY HO HT0
        have HAT0 := HAT.out.lt
        obtain ⟨B, hB⟩ : ∃ B, u3.heap.size = B := ⟨_, rfl⟩
        rw [hB] at HAT0
        have HN := Lib.hid (dA _ _ HAT.out.pr (by first | exact HBD.out | exact fun _ => rfl | (intro e; have := HBD.out; simp_all)) (fun _ => rfl) rfl trivial (by rw [HT.out]; exact HNE.out))
        go_wp2_with fail
        refine HN.out.mono ?_
        rintro e u17 ⟨hC, x17, v17, l17, b17, rfl, hv, hP, hrel⟩
        replace HT := Lib.hid (now_tail HT.out HNE.out hrel)
        replace HBD := Lib.hid (rel_bad (b0 := b0) hrel (by first | exact HBD.out | exact fun _ => rfl | (intro e; have := HBD.out; simp_all)))
        replace HAT := Lib.hid (HAT.out.call hC hP)
        obtain ⟨ka17, ta17, ma17, aa17, na17, ca17, rfl⟩ := nd_form hv
        have HV17 := Lib.hid hv
        have hsz17 : u3.heap.size ≤ u17.heap.size := hC.size
        clear hC hP hrel hv HN
        rw [hB] at HV17
        have r0 := HAT.out.res.cell
        have rf := HAT.out.res.frozen
        have rl := HAT.out.res.lt
        unfold zeroNd at r0
        go_wp2_with fail
        refine ends_at rfl rfl rfl ((((HAT.out.res.set 0 _).set 1 _).set 2 _).set 3 _) Tryz.underlying66 rfl (by kernel_rfl) ?_
        first | exact ret_value HAT.out (below B) (HV17.out) (below_yes (by omega)) (fun i hi => below_yes (by omega)) HT.out | (subst hA; exact ret_value HAT.out (below B) (HV17.out) (below_yes (by omega)) (fun i hi => below_yes (by omega)) HT.out)
    | true =>
      obtain ⟨hbf, HT0⟩ := HY.out (by trivial)
      subst hbf
      replace hP : RdrAt W u2 S l.tail false := by simpa using hP
      have HT := Lib.hid (HT0 l.tail)
      replace HAT := Lib.hid (HAT.out.call hC hP)
      clear hC hP HN HY HO HT0
      have HAT0 := HAT.out.lt
      obtain ⟨B, hB⟩ : ∃ B, u2.heap.size = B := ⟨_, rfl⟩
      rw [hB] at HAT0
      have HN := Lib.hid (dU _ _ HAT.out.pr (by first | exact HBD.out | exact fun _ => rfl | (intro e; have := HBD.out; simp_all)) (fun _ => rfl) rfl trivial (now_ne HT.out HNE.out))
      go_wp2_with fail
      refine HN.out.mono ?_
      rintro e u18 ⟨hC, x18, v18, l18, b18, rfl, hv, hP, hrel⟩
      replace HT := Lib.hid (now_bind HT.out HNE.out hrel)
      replace HBD := Lib.hid (rel_bad (b0 := b0) hrel (by first | exact HBD.out | exact fun _ => rfl | (intro e; have := HBD.out; simp_all)))
      replace HAT := Lib.hid (HAT.out.call hC hP)
      obtain ⟨ka18, ta18, ma18, aa18, na18, ca18, rfl⟩ := nd_form hv
      have HV18 := Lib.hid hv
      have hsz18 : u2.heap.size ≤ u18.heap.size := hC.size
      clear hC hP hrel hv HN
      rw [hB] at HV18 hsz18
      have HL := Lib.hid (Loc.start HV18.out (by omega : S < B) hsz18 (c := #[.int .i64 ka18, .string ta18, .int .i64 ma18, .slice aa18 na18 ca18]) rfl)
      replace HAT := Lib.hid (HAT.out.alloc (.cells #[.int .i64 ka18, .string ta18, .int .i64 ma18, .slice aa18 na18 ca18] 66))
      obtain ⟨N, hN⟩ : ∃ N, u18.heap.size = N := ⟨_, rfl⟩
      have hBN : B ≤ N := hN ▸ hsz18
      rw [hN] at HL
      go_upto_region 6 with (fail)
      generalize u18.alloc (.cells #[.int .i64 ka18, .string ta18, .int .i64 ma18, .slice aa18 na18 ca18] 66) = u9 at *
      have hNu := HL.out.nd.lt
      have HR := Lib.hid (nd_row1 HL.out.dat (by simp [hidB]; omega) 21 0 noText (by first | omega | decide) (c := #[.int .i64 ka18, .string ta18, .int .i64 ma18, .slice aa18 na18 ca18]) rfl)
      have hc := HL.out.nd.cell
      simp only [Value.cells] at hc
      have hEx := (Chg.refl (fun _ => False) u9).alloc (.cells #[.int .i64 ka18, .string ta18, .int .i64 ma18, .slice aa18 na18 ca18] 66)
      replace HAT := Lib.hid (HAT.out.extend hEx)
      clear hEx
      have r0 := HAT.out.res.cell
      have rf := HAT.out.res.frozen
      have rl := HAT.out.res.lt
      unfold zeroNd at r0
      go_wp2_with fail
      refine ends_at rfl rfl rfl ((((HAT.out.res.set 0 _).set 1 _).set 2 _).set 3 _) Tryz.underlying66 rfl (by kernel_rfl) ?_
      first | exact ret_value HAT.out (hidB B N) (HR.out) (hidB_yes (by omega)) (fun i hi => hidB_yes (by omega)) HT.out | (subst hA; exact ret_value HAT.out (hidB B N) (HR.out) (hidB_yes (by omega)) (fun i hi => hidB_yes (by omega)) HT.out)
  | true =>
    obtain ⟨hbf, HT0⟩ := HY.out (by trivial)
    subst hbf
    replace hP : RdrAt W u1 S l.tail false := by simpa using hP
    have HT := Lib.hid (HT0 l.tail)
    replace HAT := Lib.hid (HAT.out.call hC hP)
    clear hC hP HN HY HO HT0
    have HAT0 := HAT.out.lt
    obtain ⟨B, hB⟩ : ∃ B, u1.heap.size = B := ⟨_, rfl⟩
    rw [hB] at HAT0
    have HN := Lib.hid (dU _ _ HAT.out.pr (by first | exact HBD.out | exact fun _ => rfl | (intro e; have := HBD.out; simp_all)) (fun _ => rfl) rfl trivial (now_ne HT.out HNE.out))
    go_wp2_with fail
    refine HN.out.mono ?_
    rintro e u19 ⟨hC, x19, v19, l19, b19, rfl, hv, hP, hrel⟩
    replace HT := Lib.hid (now_bind HT.out HNE.out hrel)
    replace HBD := Lib.hid (rel_bad (b0 := b0) hrel (by first | exact HBD.out | exact fun _ => rfl | (intro e; have := HBD.out; simp_all)))
    replace HAT := Lib.hid (HAT.out.call hC hP)
    obtain ⟨ka19, ta19, ma19, aa19, na19, ca19, rfl⟩ := nd_form hv
    have HV19 := Lib.hid hv
    have hsz19 : u1.heap.size ≤ u19.heap.size := hC.size
    clear hC hP hrel hv HN
    rw [hB] at HV19 hsz19
    have HL := Lib.hid (Loc.start HV19.out (by omega : S < B) hsz19 (c := #[.int .i64 ka19, .string ta19, .int .i64 ma19, .slice aa19 na19 ca19]) rfl)
    replace HAT := Lib.hid (HAT.out.alloc (.cells #[.int .i64 ka19, .string ta19, .int .i64 ma19, .slice aa19 na19 ca19] 66))
    obtain ⟨N, hN⟩ : ∃ N, u19.heap.size = N := ⟨_, rfl⟩
    have hBN : B ≤ N := hN ▸ hsz19
    rw [hN] at HL
    go_upto_region 3 with (fail)
    generalize u19.alloc (.cells #[.int .i64 ka19, .string ta19, .int .i64 ma19, .slice aa19 na19 ca19] 66) = u9 at *
    have hNu := HL.out.nd.lt
    have HR := Lib.hid (nd_row1 HL.out.dat (by simp [hidB]; omega) 20 0 noText (by first | omega | decide) (c := #[.int .i64 ka19, .string ta19, .int .i64 ma19, .slice aa19 na19 ca19]) rfl)
    have hc := HL.out.nd.cell
    simp only [Value.cells] at hc
    have hEx := (Chg.refl (fun _ => False) u9).alloc (.cells #[.int .i64 ka19, .string ta19, .int .i64 ma19, .slice aa19 na19 ca19] 66)
    replace HAT := Lib.hid (HAT.out.extend hEx)
    clear hEx
    have r0 := HAT.out.res.cell
    have rf := HAT.out.res.frozen
    have rl := HAT.out.res.lt
    unfold zeroNd at r0
    go_wp2_with fail
    refine ends_at rfl rfl rfl ((((HAT.out.res.set 0 _).set 1 _).set 2 _).set 3 _) Tryz.underlying66 rfl (by kernel_rfl) ?_
    first | exact ret_value HAT.out (hidB B N) (HR.out) (hidB_yes (by omega)) (fun i hi => hidB_yes (by omega)) HT.out | (subst hA; exact ret_value HAT.out (hidB B N) (HR.out) (hidB_yes (by omega)) (fun i hi => hidB_yes (by omega)) HT.out)
end synr
end Go.Proofs.YtpcihajmcejliabGreatDoor
