/- The reference's reader: expressions. The reference's signs. -/
import Derived.Test.YtpcihajmcejliabGreatDoorSynR3
namespace Go.Proofs.YtpcihajmcejliabGreatDoor
open Go.RowKit
namespace synr
open synw
theorem kind_no {α : Type} {b : Bool} {l : List Tk} {p q T : Out α} (h : stO b l (if kindOf l = 2 then p else q) = T) (hk : b = true ∨ kindOf l ≠ 2) : stO b l q = T := by
 cases b with
 | true => exact h
 | false =>
  rcases hk with hk | hk
  ·cases hk
  ·rwa [if_neg hk] at h
theorem kind_yes {α : Type} {b : Bool} {l : List Tk} {p q T : Out α} (h : stO b l (if kindOf l = 2 then p else q) = T) (hk : kindOf l = 2) : stO b l p = T := by rwa [if_pos hk] at h
theorem bad_any {α : Type} {l : List Tk} {p q : Out α} {T : Out α} (h : stO true l p = T) : stO true l q = T := h
set_option maxRecDepth 100000 in
set_option maxHeartbeats 4000000 in
theorem asked_step {b0 g0 : Bool} {n : Nat} (dX : RC b0 false n .expr) {W w : World} {S : Nat} {l : List Tk} {b : Bool} (h : RdrAt W w S l b) (hb : b0 = true → b = true) (_hg : g0 = true → b = false) (hne : stO b l (prs (n + 1) (.asked) l) ≠ .out) :
  Calls Tryz.prog 256 #[.pointer (some ⟨S, 0, none⟩)] w (Rst (VN w.heap.size) W w S (stO b l (prs (n + 1) (.asked) l))) := by
 obtain ⟨T, hT⟩ : ∃ T, stO b l (prs (n + 1) (.asked) l) = T := ⟨_, rfl⟩; rw [hT] at hne ⊢; simp only [prs] at hT; have HT := Z_ hT; have HNE := Z_ hne; have HBD := Z_ hb; have HAT : Hid (RAt W w (w.alloc (.cells #[.int .i64 0, .string ⟨#[]⟩, .int .i64 0, .slice none 0 0] 66)) S w.heap.size l b) := Z_ (RAt.start h); obtain ⟨A, hA⟩ : ∃ A, w.heap.size = A := ⟨_, rfl⟩; rw [hA] at HAT; have hSA : S < A := by have := h.lt; omega
 clear h hb _hg hne hT; go_enter Tryz.func256, Tryz.ntmps256
 go_upto_region 1 with (fail)
 generalize w.alloc (.cells #[.int .i64 0, .string ⟨#[]⟩, .int .i64 0, .slice none 0 0] 66) = u0 at *; have HN := Z_ (must_any HAT.out.pr sOpen (by decide)); go_wp2_with fail
 refine HN.out.mono ?_
 rintro e u1 ⟨hC, _, _, l1, b1, rfl, rfl, hP, hrel⟩; replace HT := Z_ (now_bind HT.out HNE.out hrel); replace HBD := Z_ (rel_bad (b0 := b0) hrel (by first | exact HBD.out | exact fun _ => rfl | (intro e; have := HBD.out; simp_all))); replace HAT := Z_ (HAT.out.call hC hP); clear hC hP hrel HN; have HAT0 := HAT.out.lt; obtain ⟨B, hB⟩ : ∃ B, u1.heap.size = B := ⟨_, rfl⟩; rw [hB] at HAT0; have HN := Z_ (dX _ _ HAT.out.pr (by first | exact HBD.out | exact fun _ => rfl | (intro e; have := HBD.out; simp_all)) (fun e => by cases e) rfl trivial (now_ne HT.out HNE.out)); go_wp2_with fail
 refine HN.out.mono ?_
 rintro e u2 ⟨hC, x2, v2, l2, b2, rfl, hv, hP, hrel⟩; replace HT := Z_ (now_bind HT.out HNE.out hrel); replace HBD := Z_ (rel_bad (b0 := b0) hrel (by first | exact HBD.out | exact fun _ => rfl | (intro e; have := HBD.out; simp_all))); replace HAT := Z_ (HAT.out.call hC hP); obtain ⟨ka2, ta2, ma2, aa2, na2, ca2, rfl⟩ := nd_form hv; have HV2 := Z_ hv; have hsz2 : u1.heap.size ≤ u2.heap.size := hC.size; clear hC hP hrel hv HN; rw [hB] at HV2 hsz2; have HL := Z_ (Loc.start HV2.out (by omega : S < B) hsz2 (c := #[.int .i64 ka2, .string ta2, .int .i64 ma2, .slice aa2 na2 ca2]) rfl); replace HAT := Z_ (HAT.out.alloc (.cells #[.int .i64 ka2, .string ta2, .int .i64 ma2, .slice aa2 na2 ca2] 66)); obtain ⟨N, hN⟩ : ∃ N, u2.heap.size = N := ⟨_, rfl⟩; have hBN : B ≤ N := hN ▸ hsz2
 rw [hN] at HL; go_upto_region 3 with (fail)
 generalize u2.alloc (.cells #[.int .i64 ka2, .string ta2, .int .i64 ma2, .slice aa2 na2 ca2] 66) = u9 at *; have HN := Z_ (must_any HAT.out.pr sClose (by decide)); go_wp2_with fail
 refine HN.out.mono ?_
 rintro e u3 ⟨hC, _, _, l3, b3, rfl, rfl, hP, hrel⟩; replace HT := Z_ (now_bind HT.out HNE.out hrel); replace HBD := Z_ (rel_bad (b0 := b0) hrel (by first | exact HBD.out | exact fun _ => rfl | (intro e; have := HBD.out; simp_all))); replace HAT := Z_ (HAT.out.call hC hP); replace HL := Z_ (HL.out.call hC); clear hC hP hrel HN; have hc := HL.out.nd.cell; simp only [Value.cells] at hc; have r0 := HAT.out.res.cell; have rf := HAT.out.res.frozen; have rl := HAT.out.res.lt; unfold zeroNd at r0; go_wp2_with fail
 refine ends_at rfl rfl rfl ((((HAT.out.res.set 0 _).set 1 _).set 2 _).set 3 _) Tryz.underlying66 rfl (by kernel_rfl) ?_
 first | exact ret_value HAT.out (hidB B N) (HL.out.dat) (hidB_yes (by omega)) (fun i hi => hidB_yes (by omega)) HT.out | (subst hA; exact ret_value HAT.out (hidB B N) (HL.out.dat) (hidB_yes (by omega)) (fun i hi => hidB_yes (by omega)) HT.out)
set_option maxRecDepth 100000 in
set_option maxHeartbeats 4000000 in
theorem place_step {b0 g0 : Bool} {n : Nat} {s : ByteArray} (dX : RC b0 true n .expr) {W w : World} {S : Nat} {l : List Tk} {b : Bool} (h : RdrAt W w S l b) (hb : b0 = true → b = true) (_hg : g0 = true → b = false) (hs : s.size ≤ 7000) (hne : stO b l (prs (n + 1) (.place s) l) ≠ .out) :
  Calls Tryz.prog 261 #[.pointer (some ⟨S, 0, none⟩), .string s] w (Rst (VN w.heap.size) W w S (stO b l (prs (n + 1) (.place s) l))) := by
 obtain ⟨T, hT⟩ : ∃ T, stO b l (prs (n + 1) (.place s) l) = T := ⟨_, rfl⟩; rw [hT] at hne ⊢; simp only [prs] at hT; have HT := Z_ hT; have HNE := Z_ hne; have HBD := Z_ hb; have HAT : Hid (RAt W w (w.alloc (.cells #[.int .i64 0, .string ⟨#[]⟩, .int .i64 0, .slice none 0 0] 66)) S w.heap.size l b) := Z_ (RAt.start h); obtain ⟨A, hA⟩ : ∃ A, w.heap.size = A := ⟨_, rfl⟩; rw [hA] at HAT; have hSA : S < A := by have := h.lt; omega
 clear h hb _hg hne hT; go_enter Tryz.func261, Tryz.ntmps261
 go_upto_region 1 with (fail)
 generalize w.alloc (.cells #[.int .i64 0, .string ⟨#[]⟩, .int .i64 0, .slice none 0 0] 66) = u0 at *; have HN := Z_ (eat_any HAT.out.pr sBra (by decide)); have HY := Z_ (fun he => now_eat2 HT.out he); have HO := Z_ (fun he => now_not HT.out he); clear HT; generalize (!b && isB l [sBra]) = R at *; go_wp2_with fail
 refine HN.out.mono ?_
 rintro e u1 ⟨rfl, hC, hP⟩; cases R with
 | false =>
  replace hP : RdrAt W u1 S l b := by simpa using hP
  have HT := Z_ (HO.out (by trivial)); replace HAT := Z_ (HAT.out.call hC hP); clear hC hP HN HY HO; have HAT0 := HAT.out.lt; have r0 := HAT.out.res.cell; have rf := HAT.out.res.frozen; have rl := HAT.out.res.lt; unfold zeroNd at r0; go_wp2_with fail
  refine ends_at rfl rfl rfl ((((HAT.out.res.set 0 _).set 1 _).set 2 _).set 3 _) Tryz.underlying66 rfl (by kernel_rfl) ?_
  first | exact ret_value HAT.out (below (A + 1)) (ndAt_leaf _ _ _ _ (by omega)) (below_yes (by omega)) (fun i hi => below_yes (by omega)) HT.out | (subst hA; exact ret_value HAT.out (below (w.heap.size + 1)) (ndAt_leaf _ _ _ _ (by omega)) (below_yes (by omega)) (fun i hi => below_yes (by omega)) HT.out)
 | true =>
  obtain ⟨hbf, HT0⟩ := HY.out (by trivial); subst hbf; replace hP : RdrAt W u1 S l.tail false := by simpa using hP
  have HT := Z_ (HT0 l.tail); replace HAT := Z_ (HAT.out.call hC hP); clear hC hP HN HY HO HT0; have HAT0 := HAT.out.lt; obtain ⟨B, hB⟩ : ∃ B, u1.heap.size = B := ⟨_, rfl⟩; rw [hB] at HAT0; have HN := Z_ (dX _ _ HAT.out.pr (by first | exact HBD.out | exact fun _ => rfl | (intro e; have := HBD.out; simp_all)) (fun _ => rfl) rfl trivial (now_ne HT.out HNE.out)); go_wp2_with fail
  refine HN.out.mono ?_
  rintro e u2 ⟨hC, x2, v2, l2, b2, rfl, hv, hP, hrel⟩; replace HT := Z_ (now_bind HT.out HNE.out hrel); replace HBD := Z_ (rel_bad (b0 := b0) hrel (by first | exact HBD.out | exact fun _ => rfl | (intro e; have := HBD.out; simp_all))); replace HAT := Z_ (HAT.out.call hC hP); obtain ⟨ka2, ta2, ma2, aa2, na2, ca2, rfl⟩ := nd_form hv; have HV2 := Z_ hv; have hsz2 : u1.heap.size ≤ u2.heap.size := hC.size; clear hC hP hrel hv HN; rw [hB] at HV2 hsz2; have HL := Z_ (Loc.start HV2.out (by omega : S < B) hsz2 (c := #[.int .i64 ka2, .string ta2, .int .i64 ma2, .slice aa2 na2 ca2]) rfl); replace HAT := Z_ (HAT.out.alloc (.cells #[.int .i64 ka2, .string ta2, .int .i64 ma2, .slice aa2 na2 ca2] 66)); obtain ⟨N, hN⟩ : ∃ N, u2.heap.size = N := ⟨_, rfl⟩; have hBN : B ≤ N := hN ▸ hsz2
  rw [hN] at HL; go_upto_region 4 with (fail)
  generalize u2.alloc (.cells #[.int .i64 ka2, .string ta2, .int .i64 ma2, .slice aa2 na2 ca2] 66) = u9 at *; have HN := Z_ (must_any HAT.out.pr sKet (by decide)); go_wp2_with fail
  refine HN.out.mono ?_
  rintro e u3 ⟨hC, _, _, l3, b3, rfl, rfl, hP, hrel⟩; replace HT := Z_ (now_bind HT.out HNE.out hrel); replace HBD := Z_ (rel_bad (b0 := b0) hrel (by first | exact HBD.out | exact fun _ => rfl | (intro e; have := HBD.out; simp_all))); replace HAT := Z_ (HAT.out.call hC hP); replace HL := Z_ (HL.out.call hC); clear hC hP hrel HN; have hNu := HL.out.nd.lt; have HR := Z_ (nd_row1 HL.out.dat (by simp [hidB]; omega) 17 0 s (by first | omega | decide) (c := #[.int .i64 ka2, .string ta2, .int .i64 ma2, .slice aa2 na2 ca2]) rfl); have hc := HL.out.nd.cell; simp only [Value.cells] at hc; have hEx := (Chg.refl (fun _ => False) u3).alloc (.cells #[.int .i64 ka2, .string ta2, .int .i64 ma2, .slice aa2 na2 ca2] 66); replace HAT := Z_ (HAT.out.extend hEx); clear hEx; have r0 := HAT.out.res.cell; have rf := HAT.out.res.frozen; have rl := HAT.out.res.lt; unfold zeroNd at r0
  go_wp2_with fail
  refine ends_at rfl rfl rfl ((((HAT.out.res.set 0 _).set 1 _).set 2 _).set 3 _) Tryz.underlying66 rfl (by kernel_rfl) ?_
  first | exact ret_value HAT.out (hidB B N) (HR.out) (hidB_yes (by omega)) (fun i hi => hidB_yes (by omega)) HT.out | (subst hA; exact ret_value HAT.out (hidB B N) (HR.out) (hidB_yes (by omega)) (fun i hi => hidB_yes (by omega)) HT.out)
set_option maxRecDepth 100000 in
set_option maxHeartbeats 4000000 in
theorem expr_step {b0 g0 : Bool} {n : Nat} (dB : RC b0 true n (.bound 0)) {W w : World} {S : Nat} {l : List Tk} {b : Bool} (h : RdrAt W w S l b) (hb : b0 = true → b = true) (_hg : g0 = true → b = false) (hne : stO b l (prs (n + 1) (.expr) l) ≠ .out) :
  Calls Tryz.prog 258 #[.pointer (some ⟨S, 0, none⟩)] w (Rst (VN w.heap.size) W w S (stO b l (prs (n + 1) (.expr) l))) := by
 obtain ⟨T, hT⟩ : ∃ T, stO b l (prs (n + 1) (.expr) l) = T := ⟨_, rfl⟩; rw [hT] at hne ⊢; simp only [prs] at hT; have HT := Z_ hT; have HNE := Z_ hne; have HBD := Z_ hb; have HAT : Hid (RAt W w (w.alloc (.cells #[.int .i64 0, .string ⟨#[]⟩, .int .i64 0, .slice none 0 0] 66)) S w.heap.size l b) := Z_ (RAt.start h); obtain ⟨A, hA⟩ : ∃ A, w.heap.size = A := ⟨_, rfl⟩; rw [hA] at HAT; have hSA : S < A := by have := h.lt; omega
 clear h hb _hg hne hT; go_enter Tryz.func258, Tryz.ntmps258
 go_upto_region 1 with (fail)
 generalize w.alloc (.cells #[.int .i64 0, .string ⟨#[]⟩, .int .i64 0, .slice none 0 0] 66) = u0 at *; obtain ⟨ra_, rn_, rc_, rk_, hbk, -, -⟩ := rdr_blk HAT.out.pr; have c2 := hbk.cell 2; simp at c2
 clear hbk; cases b with
 | false =>
  have HAT0 := HAT.out.lt; obtain ⟨B, hB⟩ : ∃ B, u0.heap.size = B := ⟨_, rfl⟩; rw [hB] at HAT0; have HN := Z_ (dB _ _ HAT.out.pr (by first | exact HBD.out | exact fun _ => rfl | (intro e; have := HBD.out; simp_all)) (fun _ => rfl) rfl (Nat.zero_le _) (by rw [HT.out]; exact HNE.out)); go_wp2_with fail
  refine HN.out.mono ?_
  rintro e u1 ⟨hC, x1, v1, l1, b1, rfl, hv, hP, hrel⟩; replace HT := Z_ (now_tail HT.out HNE.out hrel); replace HBD := Z_ (rel_bad (b0 := b0) hrel (by first | exact HBD.out | exact fun _ => rfl | (intro e; have := HBD.out; simp_all))); replace HAT := Z_ (HAT.out.call hC hP); obtain ⟨ka1, ta1, ma1, aa1, na1, ca1, rfl⟩ := nd_form hv; have HV1 := Z_ hv; have hsz1 : u0.heap.size ≤ u1.heap.size := hC.size; clear hC hP hrel hv HN; rw [hB] at HV1; have r0 := HAT.out.res.cell; have rf := HAT.out.res.frozen; have rl := HAT.out.res.lt; unfold zeroNd at r0; go_wp2_with fail
  refine ends_at rfl rfl rfl ((((HAT.out.res.set 0 _).set 1 _).set 2 _).set 3 _) Tryz.underlying66 rfl (by kernel_rfl) ?_
  first | exact ret_value HAT.out (below B) (HV1.out) (below_yes (by omega)) (fun i hi => below_yes (by omega)) HT.out | (subst hA; exact ret_value HAT.out (below B) (HV1.out) (below_yes (by omega)) (fun i hi => below_yes (by omega)) HT.out)
 | true =>
  have HAT0 := HAT.out.lt; replace HT := Z_ (bad_any (q := .got (.mk 0 noText 0 []) l) HT.out); have r0 := HAT.out.res.cell; have rf := HAT.out.res.frozen; have rl := HAT.out.res.lt; unfold zeroNd at r0; go_wp2_with fail
  refine ends_at rfl rfl rfl ((((HAT.out.res.set 0 _).set 1 _).set 2 _).set 3 _) Tryz.underlying66 rfl (by kernel_rfl) ?_
  first | exact ret_value HAT.out (below (A + 1)) (ndAt_leaf _ _ _ _ (by decide)) (below_yes (by omega)) (fun i hi => below_yes (by omega)) HT.out | (subst hA; exact ret_value HAT.out (below (w.heap.size + 1)) (ndAt_leaf _ _ _ _ (by decide)) (below_yes (by omega)) (fun i hi => below_yes (by omega)) HT.out)
set_option maxRecDepth 100000 in
set_option maxHeartbeats 4000000 in
theorem unary_step {b0 g0 : Bool} {n : Nat} (dU : RC b0 true n .unary) (dA : RC b0 true n .asked) (dC : ∀ s, RC b0 true n (.call s)) (dP : ∀ s, RC b0 false n (.place s)) {W w : World} {S : Nat} {l : List Tk} {b : Bool} (h : RdrAt W w S l b) (hb : b0 = true → b = true) (_hg : g0 = true → b = false) (hne : stO b l (prs (n + 1) (.unary) l) ≠ .out) :
  Calls Tryz.prog 328 #[.pointer (some ⟨S, 0, none⟩)] w (Rst (VN w.heap.size) W w S (stO b l (prs (n + 1) (.unary) l))) := by
 obtain ⟨T, hT⟩ : ∃ T, stO b l (prs (n + 1) (.unary) l) = T := ⟨_, rfl⟩; rw [hT] at hne ⊢; simp only [prs] at hT; have HT := Z_ hT; have HNE := Z_ hne; have HBD := Z_ hb; have HAT : Hid (RAt W w (w.alloc (.cells #[.int .i64 0, .string ⟨#[]⟩, .int .i64 0, .slice none 0 0] 66)) S w.heap.size l b) := Z_ (RAt.start h); obtain ⟨A, hA⟩ : ∃ A, w.heap.size = A := ⟨_, rfl⟩; rw [hA] at HAT; have hSA : S < A := by have := h.lt; omega
 clear h hb _hg hne hT; go_enter Tryz.func328, Tryz.ntmps328
 go_upto_region 1 with (fail)
 generalize w.alloc (.cells #[.int .i64 0, .string ⟨#[]⟩, .int .i64 0, .slice none 0 0] 66) = u0 at *; have HN := Z_ (eat_any HAT.out.pr sMinus (by decide)); have HY := Z_ (fun he => now_eat2 HT.out he); have HO := Z_ (fun he => now_not HT.out he); clear HT; generalize (!b && isB l [sMinus]) = R at *; go_wp2_with fail
 refine HN.out.mono ?_
 rintro e u1 ⟨rfl, hC, hP⟩; cases R with
 | false =>
  replace hP : RdrAt W u1 S l b := by simpa using hP
  have HT := Z_ (HO.out (by trivial)); replace HAT := Z_ (HAT.out.call hC hP); clear hC hP HN HY HO; have HN := Z_ (eat_any HAT.out.pr sNot (by decide)); have HY := Z_ (fun he => now_eat2 HT.out he); have HO := Z_ (fun he => now_not HT.out he); clear HT; generalize (!b && isB l [sNot]) = R at *; go_wp2_with fail
  refine HN.out.mono ?_
  rintro e u2 ⟨rfl, hC, hP⟩; cases R with
  | false =>
   replace hP : RdrAt W u2 S l b := by simpa using hP
   have HT := Z_ (HO.out (by trivial)); replace HAT := Z_ (HAT.out.call hC hP); clear hC hP HN HY HO; have HN := Z_ (text_is HAT.out.pr sOpen (by decide) (q := [40]) rfl); have HY := Z_ (fun he => now_eat2 HT.out he); have HO := Z_ (fun he => now_not HT.out he); clear HT; generalize (!b && isB l [sOpen]) = R at *; go_wp2_with fail
   refine HN.out.mono ?_
   rintro e u3 ⟨xt, rfl, hst, hE⟩; replace HAT := Z_ (HAT.out.extend hE); clear hE HN; cases R with
   | false =>
    have HT := Z_ (HO.out (by trivial)); clear HY HO; obtain ⟨ra, rn, rc, rk, hbk, hk1, hk2, hk3⟩ := HAT.out.pr.ex; have c0 := hbk.cell 0; have c1 := hbk.cell 1; have c2 := hbk.cell 2; simp at c0 c1 c2
    clear hbk; cases b with
    | false =>
     cases l with
     | nil =>
      replace HT := Z_ (kind_no HT.out (.inr (by decide))); simp only [List.length_nil, Nat.add_zero] at hk1; subst hk1; have hge : ¬ ((rk : Int) < (rk : Int)) := Int.lt_irrefl _; have hge2 : decide (rk < rk) = false := by simp
      have hge3 : decide ((rk : Int) < (rk : Int)) = false := by simp
      clear hk3; go_wp2_with fail
      go_quiet (fail)
      replace HAT := Z_ (HAT.out.extend ((Chg.refl _ _).drewN nq)); generalize u3.drewN nq = uq at *; clear c0 c1 c2; have HN := Z_ (whole_any HAT.out.pr); go_wp2_with fail
      refine HN.out.mono ?_
      rintro e u4 ⟨hC, s4, v, l4, b4, rfl, ⟨rfl, hss4⟩, hP, hrel⟩; replace HT := Z_ (now_bind HT.out HNE.out hrel); replace HBD := Z_ (rel_bad (b0 := b0) hrel (by first | exact HBD.out | exact fun _ => rfl | (intro e; have := HBD.out; simp_all))); replace HAT := Z_ (HAT.out.call hC hP); clear hC hP hrel HN; have HN := Z_ (text_is HAT.out.pr sOpen (by decide) (q := [40]) rfl); have HY := Z_ (fun he => now_eat2 HT.out he); have HO := Z_ (fun he => now_not HT.out he); clear HT; generalize (!b4 && isB l4 [sOpen]) = R at *; go_wp2_with fail
      refine HN.out.mono ?_
      rintro e u5 ⟨xt, rfl, hst, hE⟩; replace HAT := Z_ (HAT.out.extend hE); clear hE HN; cases R with
      | false =>
       have HT := Z_ (HO.out (by trivial)); clear HY HO; have HAT0 := HAT.out.lt; obtain ⟨B, hB⟩ : ∃ B, u5.heap.size = B := ⟨_, rfl⟩; rw [hB] at HAT0; have HN := Z_ ((dP s4) _ _ HAT.out.pr (by first | exact HBD.out | exact fun _ => rfl | (intro e; have := HBD.out; simp_all)) (fun e => by cases e) rfl hss4 (by rw [HT.out]; exact HNE.out)); go_wp2_with fail
       refine HN.out.mono ?_
       rintro e u6 ⟨hC, x6, v6, l6, b6, rfl, hv, hP, hrel⟩; replace HT := Z_ (now_tail HT.out HNE.out hrel); replace HBD := Z_ (rel_bad (b0 := b0) hrel (by first | exact HBD.out | exact fun _ => rfl | (intro e; have := HBD.out; simp_all))); replace HAT := Z_ (HAT.out.call hC hP); obtain ⟨ka6, ta6, ma6, aa6, na6, ca6, rfl⟩ := nd_form hv; have HV6 := Z_ hv; have hsz6 : u5.heap.size ≤ u6.heap.size := hC.size; clear hC hP hrel hv HN; rw [hB] at HV6; have r0 := HAT.out.res.cell; have rf := HAT.out.res.frozen; have rl := HAT.out.res.lt; unfold zeroNd at r0; go_wp2_with fail
       refine ends_at rfl rfl rfl ((((HAT.out.res.set 0 _).set 1 _).set 2 _).set 3 _) Tryz.underlying66 rfl (by kernel_rfl) ?_
       first | exact ret_value HAT.out (below B) (HV6.out) (below_yes (by omega)) (fun i hi => below_yes (by omega)) HT.out | (subst hA; exact ret_value HAT.out (below B) (HV6.out) (below_yes (by omega)) (fun i hi => below_yes (by omega)) HT.out)
      | true =>
       obtain ⟨hbf, HT0⟩ := HY.out (by trivial); subst hbf; have HT := Z_ (HT0 l4); clear HY HO HT0; have HAT0 := HAT.out.lt; obtain ⟨B, hB⟩ : ∃ B, u5.heap.size = B := ⟨_, rfl⟩; rw [hB] at HAT0; have HN := Z_ ((dC s4) _ _ HAT.out.pr (by first | exact HBD.out | exact fun _ => rfl | (intro e; have := HBD.out; simp_all)) (fun _ => rfl) rfl hss4 (by rw [HT.out]; exact HNE.out)); go_wp2_with fail
       refine HN.out.mono ?_
       rintro e u7 ⟨hC, x7, v7, l7, b7, rfl, hv, hP, hrel⟩; replace HT := Z_ (now_tail HT.out HNE.out hrel); replace HBD := Z_ (rel_bad (b0 := b0) hrel (by first | exact HBD.out | exact fun _ => rfl | (intro e; have := HBD.out; simp_all))); replace HAT := Z_ (HAT.out.call hC hP); obtain ⟨ka7, ta7, ma7, aa7, na7, ca7, rfl⟩ := nd_form hv; have HV7 := Z_ hv; have hsz7 : u5.heap.size ≤ u7.heap.size := hC.size; clear hC hP hrel hv HN; rw [hB] at HV7; have r0 := HAT.out.res.cell; have rf := HAT.out.res.frozen; have rl := HAT.out.res.lt; unfold zeroNd at r0; go_wp2_with fail
       refine ends_at rfl rfl rfl ((((HAT.out.res.set 0 _).set 1 _).set 2 _).set 3 _) Tryz.underlying66 rfl (by kernel_rfl) ?_
       first | exact ret_value HAT.out (below B) (HV7.out) (below_yes (by omega)) (fun i hi => below_yes (by omega)) HT.out | (subst hA; exact ret_value HAT.out (below B) (HV7.out) (below_yes (by omega)) (fun i hi => below_yes (by omega)) HT.out)
     | cons t r =>
      obtain ⟨tq, tp, rfl, hbb, ht⟩ := hk3 0 (by simp); obtain ⟨t0, -, -, -⟩ := ht; have e : ∀ i, u3.cell? ⟨tq, i, none⟩ = W.cell? ⟨tq, i, none⟩ := fun i => HAT.out.pr.ext.cell (by exact hbb) id
      have hbW := Nat.lt_of_lt_of_le hbb HAT.out.pr.ext.size; rw [← e] at t0; simp only [Nat.add_zero, List.getElem_cons_zero] at t0; have hkn : (rk : Int) < (rn : Int) := by simp at hk1; omega
      have hkn2 : ¬ ((rn : Int) ≤ (rk : Int)) := by omega
      have hkn3 : decide (rk < rn) = true := by simp; omega
      obtain ⟨tk, tt, ta⟩ := t; simp only at t0; clear hk3 e hk1 hbb; by_cases hk : tk = 2
      ·subst hk
       replace HT := Z_ (kind_yes HT.out rfl); go_wp2_with fail
       go_quiet (fail)
       replace HAT := Z_ (HAT.out.extend ((Chg.refl _ _).drewN nq)); generalize u3.drewN nq = uq at *; clear c0 c1 c2 t0; have HAT0 := HAT.out.lt; obtain ⟨B, hB⟩ : ∃ B, uq.heap.size = B := ⟨_, rfl⟩; rw [hB] at HAT0; have HN := Z_ (number_any HAT.out.pr); go_wp2_with fail
       refine HN.out.mono ?_
       rintro e u8 ⟨hC, x8, v8, l8, b8, rfl, hv, hP, hrel⟩; replace hrel : Rel (stO false (⟨2, tt, ta⟩ :: r) (pNumber (⟨2, tt, ta⟩ :: r))) x8 l8 b8 := hrel; replace HT := Z_ (now_tail HT.out HNE.out hrel); replace HBD := Z_ (rel_bad (b0 := b0) hrel (by first | exact HBD.out | exact fun _ => rfl | (intro e; have := HBD.out; simp_all))); replace HAT := Z_ (HAT.out.call hC hP); obtain ⟨ka8, ta8, ma8, aa8, na8, ca8, rfl⟩ := nd_form hv; have HV8 := Z_ hv; clear hC hP hrel hv HN; rw [hB] at HV8; have r0 := HAT.out.res.cell; have rf := HAT.out.res.frozen; have rl := HAT.out.res.lt; unfold zeroNd at r0; go_wp2_with fail
       refine ends_at rfl rfl rfl ((((HAT.out.res.set 0 _).set 1 _).set 2 _).set 3 _) Tryz.underlying66 rfl (by kernel_rfl) ?_
       first | exact ret_value HAT.out (below B) (HV8.out) (below_yes (by omega)) (fun i hi => below_yes (by omega)) HT.out | (subst hA; exact ret_value HAT.out (below B) (HV8.out) (below_yes (by omega)) (fun i hi => below_yes (by omega)) HT.out)
      ·have hk2 : (tk == 2) = false := by simpa using hk
       replace HT := Z_ (kind_no HT.out (.inr hk)); go_wp2_with fail
       go_quiet (fail)
       replace HAT := Z_ (HAT.out.extend ((Chg.refl _ _).drewN nq)); generalize u3.drewN nq = uq at *; clear c0 c1 c2 t0; have HN := Z_ (whole_any HAT.out.pr); go_wp2_with fail
       refine HN.out.mono ?_
       rintro e u9 ⟨hC, s9, v, l9, b9, rfl, ⟨rfl, hss9⟩, hP, hrel⟩; replace HT := Z_ (now_bind HT.out HNE.out hrel); replace HBD := Z_ (rel_bad (b0 := b0) hrel (by first | exact HBD.out | exact fun _ => rfl | (intro e; have := HBD.out; simp_all))); replace HAT := Z_ (HAT.out.call hC hP); clear hC hP hrel HN; have HN := Z_ (text_is HAT.out.pr sOpen (by decide) (q := [40]) rfl); have HY := Z_ (fun he => now_eat2 HT.out he); have HO := Z_ (fun he => now_not HT.out he); clear HT; generalize (!b9 && isB l9 [sOpen]) = R at *; go_wp2_with fail
       refine HN.out.mono ?_
       rintro e u10 ⟨xt, rfl, hst, hE⟩; replace HAT := Z_ (HAT.out.extend hE); clear hE HN; cases R with
       | false =>
        have HT := Z_ (HO.out (by trivial)); clear HY HO; have HAT0 := HAT.out.lt; obtain ⟨B, hB⟩ : ∃ B, u10.heap.size = B := ⟨_, rfl⟩; rw [hB] at HAT0; have HN := Z_ ((dP s9) _ _ HAT.out.pr (by first | exact HBD.out | exact fun _ => rfl | (intro e; have := HBD.out; simp_all)) (fun e => by cases e) rfl hss9 (by rw [HT.out]; exact HNE.out)); go_wp2_with fail
        refine HN.out.mono ?_
        rintro e u11 ⟨hC, x11, v11, l11, b11, rfl, hv, hP, hrel⟩; replace HT := Z_ (now_tail HT.out HNE.out hrel); replace HBD := Z_ (rel_bad (b0 := b0) hrel (by first | exact HBD.out | exact fun _ => rfl | (intro e; have := HBD.out; simp_all))); replace HAT := Z_ (HAT.out.call hC hP); obtain ⟨ka11, ta11, ma11, aa11, na11, ca11, rfl⟩ := nd_form hv; have HV11 := Z_ hv; have hsz11 : u10.heap.size ≤ u11.heap.size := hC.size; clear hC hP hrel hv HN; rw [hB] at HV11; have r0 := HAT.out.res.cell; have rf := HAT.out.res.frozen; have rl := HAT.out.res.lt; unfold zeroNd at r0; go_wp2_with fail
        refine ends_at rfl rfl rfl ((((HAT.out.res.set 0 _).set 1 _).set 2 _).set 3 _) Tryz.underlying66 rfl (by kernel_rfl) ?_
        first | exact ret_value HAT.out (below B) (HV11.out) (below_yes (by omega)) (fun i hi => below_yes (by omega)) HT.out | (subst hA; exact ret_value HAT.out (below B) (HV11.out) (below_yes (by omega)) (fun i hi => below_yes (by omega)) HT.out)
       | true =>
        obtain ⟨hbf, HT0⟩ := HY.out (by trivial); subst hbf; have HT := Z_ (HT0 l9); clear HY HO HT0; have HAT0 := HAT.out.lt; obtain ⟨B, hB⟩ : ∃ B, u10.heap.size = B := ⟨_, rfl⟩; rw [hB] at HAT0; have HN := Z_ ((dC s9) _ _ HAT.out.pr (by first | exact HBD.out | exact fun _ => rfl | (intro e; have := HBD.out; simp_all)) (fun _ => rfl) rfl hss9 (by rw [HT.out]; exact HNE.out)); go_wp2_with fail
        refine HN.out.mono ?_
        rintro e u12 ⟨hC, x12, v12, l12, b12, rfl, hv, hP, hrel⟩; replace HT := Z_ (now_tail HT.out HNE.out hrel); replace HBD := Z_ (rel_bad (b0 := b0) hrel (by first | exact HBD.out | exact fun _ => rfl | (intro e; have := HBD.out; simp_all))); replace HAT := Z_ (HAT.out.call hC hP); obtain ⟨ka12, ta12, ma12, aa12, na12, ca12, rfl⟩ := nd_form hv; have HV12 := Z_ hv; have hsz12 : u10.heap.size ≤ u12.heap.size := hC.size; clear hC hP hrel hv HN; rw [hB] at HV12; have r0 := HAT.out.res.cell; have rf := HAT.out.res.frozen; have rl := HAT.out.res.lt; unfold zeroNd at r0; go_wp2_with fail
        refine ends_at rfl rfl rfl ((((HAT.out.res.set 0 _).set 1 _).set 2 _).set 3 _) Tryz.underlying66 rfl (by kernel_rfl) ?_
        first | exact ret_value HAT.out (below B) (HV12.out) (below_yes (by omega)) (fun i hi => below_yes (by omega)) HT.out | (subst hA; exact ret_value HAT.out (below B) (HV12.out) (below_yes (by omega)) (fun i hi => below_yes (by omega)) HT.out)
    | true =>
     replace HT := Z_ (kind_no HT.out (.inl rfl)); clear hk3 hk1; go_wp2_with fail
     go_quiet (fail)
     replace HAT := Z_ (HAT.out.extend ((Chg.refl _ _).drewN nq)); generalize u3.drewN nq = uq at *; clear c0 c1 c2; have HN := Z_ (whole_any HAT.out.pr); go_wp2_with fail
     refine HN.out.mono ?_
     rintro e u13 ⟨hC, s13, v, l13, b13, rfl, ⟨rfl, hss13⟩, hP, hrel⟩; replace HT := Z_ (now_bind HT.out HNE.out hrel); replace HBD := Z_ (rel_bad (b0 := b0) hrel (by first | exact HBD.out | exact fun _ => rfl | (intro e; have := HBD.out; simp_all))); replace HAT := Z_ (HAT.out.call hC hP); clear hC hP hrel HN; have HN := Z_ (text_is HAT.out.pr sOpen (by decide) (q := [40]) rfl); have HY := Z_ (fun he => now_eat2 HT.out he); have HO := Z_ (fun he => now_not HT.out he); clear HT; generalize (!b13 && isB l13 [sOpen]) = R at *; go_wp2_with fail
     refine HN.out.mono ?_
     rintro e u14 ⟨xt, rfl, hst, hE⟩; replace HAT := Z_ (HAT.out.extend hE); clear hE HN; cases R with
     | false =>
      have HT := Z_ (HO.out (by trivial)); clear HY HO; have HAT0 := HAT.out.lt; obtain ⟨B, hB⟩ : ∃ B, u14.heap.size = B := ⟨_, rfl⟩; rw [hB] at HAT0; have HN := Z_ ((dP s13) _ _ HAT.out.pr (by first | exact HBD.out | exact fun _ => rfl | (intro e; have := HBD.out; simp_all)) (fun e => by cases e) rfl hss13 (by rw [HT.out]; exact HNE.out)); go_wp2_with fail
      refine HN.out.mono ?_
      rintro e u15 ⟨hC, x15, v15, l15, b15, rfl, hv, hP, hrel⟩; replace HT := Z_ (now_tail HT.out HNE.out hrel); replace HBD := Z_ (rel_bad (b0 := b0) hrel (by first | exact HBD.out | exact fun _ => rfl | (intro e; have := HBD.out; simp_all))); replace HAT := Z_ (HAT.out.call hC hP); obtain ⟨ka15, ta15, ma15, aa15, na15, ca15, rfl⟩ := nd_form hv; have HV15 := Z_ hv; have hsz15 : u14.heap.size ≤ u15.heap.size := hC.size; clear hC hP hrel hv HN; rw [hB] at HV15; have r0 := HAT.out.res.cell; have rf := HAT.out.res.frozen; have rl := HAT.out.res.lt; unfold zeroNd at r0; go_wp2_with fail
      refine ends_at rfl rfl rfl ((((HAT.out.res.set 0 _).set 1 _).set 2 _).set 3 _) Tryz.underlying66 rfl (by kernel_rfl) ?_
      first | exact ret_value HAT.out (below B) (HV15.out) (below_yes (by omega)) (fun i hi => below_yes (by omega)) HT.out | (subst hA; exact ret_value HAT.out (below B) (HV15.out) (below_yes (by omega)) (fun i hi => below_yes (by omega)) HT.out)
     | true =>
      obtain ⟨hbf, HT0⟩ := HY.out (by trivial); subst hbf; have HT := Z_ (HT0 l13); clear HY HO HT0; have HAT0 := HAT.out.lt; obtain ⟨B, hB⟩ : ∃ B, u14.heap.size = B := ⟨_, rfl⟩; rw [hB] at HAT0; have HN := Z_ ((dC s13) _ _ HAT.out.pr (by first | exact HBD.out | exact fun _ => rfl | (intro e; have := HBD.out; simp_all)) (fun _ => rfl) rfl hss13 (by rw [HT.out]; exact HNE.out)); go_wp2_with fail
      refine HN.out.mono ?_
      rintro e u16 ⟨hC, x16, v16, l16, b16, rfl, hv, hP, hrel⟩; replace HT := Z_ (now_tail HT.out HNE.out hrel); replace HBD := Z_ (rel_bad (b0 := b0) hrel (by first | exact HBD.out | exact fun _ => rfl | (intro e; have := HBD.out; simp_all))); replace HAT := Z_ (HAT.out.call hC hP); obtain ⟨ka16, ta16, ma16, aa16, na16, ca16, rfl⟩ := nd_form hv; have HV16 := Z_ hv; have hsz16 : u14.heap.size ≤ u16.heap.size := hC.size; clear hC hP hrel hv HN; rw [hB] at HV16; have r0 := HAT.out.res.cell; have rf := HAT.out.res.frozen; have rl := HAT.out.res.lt; unfold zeroNd at r0; go_wp2_with fail
      refine ends_at rfl rfl rfl ((((HAT.out.res.set 0 _).set 1 _).set 2 _).set 3 _) Tryz.underlying66 rfl (by kernel_rfl) ?_
      first | exact ret_value HAT.out (below B) (HV16.out) (below_yes (by omega)) (fun i hi => below_yes (by omega)) HT.out | (subst hA; exact ret_value HAT.out (below B) (HV16.out) (below_yes (by omega)) (fun i hi => below_yes (by omega)) HT.out)
   | true =>
    obtain ⟨hbf, HT0⟩ := HY.out (by trivial); subst hbf; have HT := Z_ (HT0 l); clear HY HO HT0; have HAT0 := HAT.out.lt; obtain ⟨B, hB⟩ : ∃ B, u3.heap.size = B := ⟨_, rfl⟩; rw [hB] at HAT0; have HN := Z_ (dA _ _ HAT.out.pr (by first | exact HBD.out | exact fun _ => rfl | (intro e; have := HBD.out; simp_all)) (fun _ => rfl) rfl trivial (by rw [HT.out]; exact HNE.out)); go_wp2_with fail
    refine HN.out.mono ?_
    rintro e u17 ⟨hC, x17, v17, l17, b17, rfl, hv, hP, hrel⟩; replace HT := Z_ (now_tail HT.out HNE.out hrel); replace HBD := Z_ (rel_bad (b0 := b0) hrel (by first | exact HBD.out | exact fun _ => rfl | (intro e; have := HBD.out; simp_all))); replace HAT := Z_ (HAT.out.call hC hP); obtain ⟨ka17, ta17, ma17, aa17, na17, ca17, rfl⟩ := nd_form hv; have HV17 := Z_ hv; have hsz17 : u3.heap.size ≤ u17.heap.size := hC.size; clear hC hP hrel hv HN; rw [hB] at HV17; have r0 := HAT.out.res.cell; have rf := HAT.out.res.frozen; have rl := HAT.out.res.lt; unfold zeroNd at r0; go_wp2_with fail
    refine ends_at rfl rfl rfl ((((HAT.out.res.set 0 _).set 1 _).set 2 _).set 3 _) Tryz.underlying66 rfl (by kernel_rfl) ?_
    first | exact ret_value HAT.out (below B) (HV17.out) (below_yes (by omega)) (fun i hi => below_yes (by omega)) HT.out | (subst hA; exact ret_value HAT.out (below B) (HV17.out) (below_yes (by omega)) (fun i hi => below_yes (by omega)) HT.out)
  | true =>
   obtain ⟨hbf, HT0⟩ := HY.out (by trivial); subst hbf; replace hP : RdrAt W u2 S l.tail false := by simpa using hP
   have HT := Z_ (HT0 l.tail); replace HAT := Z_ (HAT.out.call hC hP); clear hC hP HN HY HO HT0; have HAT0 := HAT.out.lt; obtain ⟨B, hB⟩ : ∃ B, u2.heap.size = B := ⟨_, rfl⟩; rw [hB] at HAT0; have HN := Z_ (dU _ _ HAT.out.pr (by first | exact HBD.out | exact fun _ => rfl | (intro e; have := HBD.out; simp_all)) (fun _ => rfl) rfl trivial (now_ne HT.out HNE.out)); go_wp2_with fail
   refine HN.out.mono ?_
   rintro e u18 ⟨hC, x18, v18, l18, b18, rfl, hv, hP, hrel⟩; replace HT := Z_ (now_bind HT.out HNE.out hrel); replace HBD := Z_ (rel_bad (b0 := b0) hrel (by first | exact HBD.out | exact fun _ => rfl | (intro e; have := HBD.out; simp_all))); replace HAT := Z_ (HAT.out.call hC hP); obtain ⟨ka18, ta18, ma18, aa18, na18, ca18, rfl⟩ := nd_form hv; have HV18 := Z_ hv; have hsz18 : u2.heap.size ≤ u18.heap.size := hC.size; clear hC hP hrel hv HN; rw [hB] at HV18 hsz18; have HL := Z_ (Loc.start HV18.out (by omega : S < B) hsz18 (c := #[.int .i64 ka18, .string ta18, .int .i64 ma18, .slice aa18 na18 ca18]) rfl); replace HAT := Z_ (HAT.out.alloc (.cells #[.int .i64 ka18, .string ta18, .int .i64 ma18, .slice aa18 na18 ca18] 66)); obtain ⟨N, hN⟩ : ∃ N, u18.heap.size = N := ⟨_, rfl⟩; have hBN : B ≤ N := hN ▸ hsz18
   rw [hN] at HL; go_upto_region 6 with (fail)
   generalize u18.alloc (.cells #[.int .i64 ka18, .string ta18, .int .i64 ma18, .slice aa18 na18 ca18] 66) = u9 at *; have hNu := HL.out.nd.lt; have HR := Z_ (nd_row1 HL.out.dat (by simp [hidB]; omega) 21 0 noText (by first | omega | decide) (c := #[.int .i64 ka18, .string ta18, .int .i64 ma18, .slice aa18 na18 ca18]) rfl); have hc := HL.out.nd.cell; simp only [Value.cells] at hc; have hEx := (Chg.refl (fun _ => False) u9).alloc (.cells #[.int .i64 ka18, .string ta18, .int .i64 ma18, .slice aa18 na18 ca18] 66); replace HAT := Z_ (HAT.out.extend hEx); clear hEx; have r0 := HAT.out.res.cell; have rf := HAT.out.res.frozen; have rl := HAT.out.res.lt; unfold zeroNd at r0; go_wp2_with fail
   refine ends_at rfl rfl rfl ((((HAT.out.res.set 0 _).set 1 _).set 2 _).set 3 _) Tryz.underlying66 rfl (by kernel_rfl) ?_
   first | exact ret_value HAT.out (hidB B N) (HR.out) (hidB_yes (by omega)) (fun i hi => hidB_yes (by omega)) HT.out | (subst hA; exact ret_value HAT.out (hidB B N) (HR.out) (hidB_yes (by omega)) (fun i hi => hidB_yes (by omega)) HT.out)
 | true =>
  obtain ⟨hbf, HT0⟩ := HY.out (by trivial); subst hbf; replace hP : RdrAt W u1 S l.tail false := by simpa using hP
  have HT := Z_ (HT0 l.tail); replace HAT := Z_ (HAT.out.call hC hP); clear hC hP HN HY HO HT0; have HAT0 := HAT.out.lt; obtain ⟨B, hB⟩ : ∃ B, u1.heap.size = B := ⟨_, rfl⟩; rw [hB] at HAT0; have HN := Z_ (dU _ _ HAT.out.pr (by first | exact HBD.out | exact fun _ => rfl | (intro e; have := HBD.out; simp_all)) (fun _ => rfl) rfl trivial (now_ne HT.out HNE.out)); go_wp2_with fail
  refine HN.out.mono ?_
  rintro e u19 ⟨hC, x19, v19, l19, b19, rfl, hv, hP, hrel⟩; replace HT := Z_ (now_bind HT.out HNE.out hrel); replace HBD := Z_ (rel_bad (b0 := b0) hrel (by first | exact HBD.out | exact fun _ => rfl | (intro e; have := HBD.out; simp_all))); replace HAT := Z_ (HAT.out.call hC hP); obtain ⟨ka19, ta19, ma19, aa19, na19, ca19, rfl⟩ := nd_form hv; have HV19 := Z_ hv; have hsz19 : u1.heap.size ≤ u19.heap.size := hC.size; clear hC hP hrel hv HN; rw [hB] at HV19 hsz19; have HL := Z_ (Loc.start HV19.out (by omega : S < B) hsz19 (c := #[.int .i64 ka19, .string ta19, .int .i64 ma19, .slice aa19 na19 ca19]) rfl); replace HAT := Z_ (HAT.out.alloc (.cells #[.int .i64 ka19, .string ta19, .int .i64 ma19, .slice aa19 na19 ca19] 66)); obtain ⟨N, hN⟩ : ∃ N, u19.heap.size = N := ⟨_, rfl⟩; have hBN : B ≤ N := hN ▸ hsz19
  rw [hN] at HL; go_upto_region 3 with (fail)
  generalize u19.alloc (.cells #[.int .i64 ka19, .string ta19, .int .i64 ma19, .slice aa19 na19 ca19] 66) = u9 at *; have hNu := HL.out.nd.lt; have HR := Z_ (nd_row1 HL.out.dat (by simp [hidB]; omega) 20 0 noText (by first | omega | decide) (c := #[.int .i64 ka19, .string ta19, .int .i64 ma19, .slice aa19 na19 ca19]) rfl); have hc := HL.out.nd.cell; simp only [Value.cells] at hc; have hEx := (Chg.refl (fun _ => False) u9).alloc (.cells #[.int .i64 ka19, .string ta19, .int .i64 ma19, .slice aa19 na19 ca19] 66); replace HAT := Z_ (HAT.out.extend hEx); clear hEx; have r0 := HAT.out.res.cell; have rf := HAT.out.res.frozen; have rl := HAT.out.res.lt; unfold zeroNd at r0; go_wp2_with fail
  refine ends_at rfl rfl rfl ((((HAT.out.res.set 0 _).set 1 _).set 2 _).set 3 _) Tryz.underlying66 rfl (by kernel_rfl) ?_
  first | exact ret_value HAT.out (hidB B N) (HR.out) (hidB_yes (by omega)) (fun i hi => hidB_yes (by omega)) HT.out | (subst hA; exact ret_value HAT.out (hidB B N) (HR.out) (hidB_yes (by omega)) (fun i hi => hidB_yes (by omega)) HT.out)
end synr
end Go.Proofs.YtpcihajmcejliabGreatDoor
namespace Go.Proofs.YtpcihajmcejliabGreatDoor
open Go.RowKit
namespace synr
open synw
def signsL : List (ByteArray × Int × Int) := [(⟨#[61, 61]⟩, 9, 0), (⟨#[60]⟩, 8, 0), (⟨#[43]⟩, 1, 1), (⟨#[45]⟩, 2, 1), (⟨#[124]⟩, 7, 1), (⟨#[42]⟩, 3, 2), (⟨#[47]⟩, 4, 2), (⟨#[37]⟩, 5, 2), (⟨#[38]⟩, 6, 2)]
theorem op_hit : ∀ j (h : j < signsL.length), opOf signsL[j].1 = signsL[j].2 := by
 have h : ∀ j : Fin signsL.length, opOf signsL[j].1 = signsL[j].2 := by decide
 exact fun j hj => h ⟨j, hj⟩
theorem op_miss {s : ByteArray} (h : ∀ j (hj : j < signsL.length), signsL[j].1 ≠ s) : opOf s = (0, -1) := by
 have g0 := h 0 (by decide); have g1 := h 1 (by decide); have g2 := h 2 (by decide); have g3 := h 3 (by decide); have g4 := h 4 (by decide)
 have g5 := h 5 (by decide); have g6 := h 6 (by decide); have g7 := h 7 (by decide); have g8 := h 8 (by decide)
 simp only [signsL, List.getElem_cons_zero, List.getElem_cons_succ] at g0 g1 g2 g3 g4 g5 g6 g7 g8; simp only [opOf, if_neg (Ne.symm g0), if_neg (Ne.symm g1), if_neg (Ne.symm g2), if_neg (Ne.symm g3), if_neg (Ne.symm g4), if_neg (Ne.symm g5), if_neg (Ne.symm g6), if_neg (Ne.symm g7), if_neg (Ne.symm g8)]
set_option maxRecDepth 100000 in
set_option maxHeartbeats 4000000 in
theorem signs_any (w : World) :
  Calls Tryz.prog 236 #[] w fun e w' => ∃ g1 g2 g3, e = .returned (.tuple #[.slice (some ⟨g1, 0, none⟩) 9 9, .slice (some ⟨g2, 0, none⟩) 9 9, .slice (some ⟨g3, 0, none⟩) 9 9]) ∧
   (∀ (j : Nat) (hj : j < signsL.length), w'.cell? ⟨g1, j, none⟩ = some (.string signsL[j].1) ∧ w'.cell? ⟨g2, j, none⟩ = some (.int .i64 signsL[j].2.1) ∧ w'.cell? ⟨g3, j, none⟩ = some (.int .i64 signsL[j].2.2)) ∧ (g1 < w'.heap.size ∧ g2 < w'.heap.size ∧ g3 < w'.heap.size) ∧ Ext w w' := by
 have hB1 := ((Blk.made w (signsL.map fun x => Value.string x.1).toArray 9).alloc (.cells (signsL.map fun x => Value.int .i64 x.2.1).toArray 2)).alloc (.cells (signsL.map fun x => Value.int .i64 x.2.2).toArray 3); have hB2 := (Blk.made2 w (.cells (signsL.map fun x => Value.string x.1).toArray 9) (signsL.map fun x => Value.int .i64 x.2.1).toArray 2).alloc (.cells (signsL.map fun x => Value.int .i64 x.2.2).toArray 3); have hB3 := Blk.made ((w.alloc (.cells (signsL.map fun x => Value.string x.1).toArray 9)).alloc (.cells (signsL.map fun x => Value.int .i64 x.2.1).toArray 2)) (signsL.map fun x => Value.int .i64 x.2.2).toArray 3; have e3 : ((w.alloc (.cells (signsL.map fun x => Value.string x.1).toArray 9)).alloc (.cells (signsL.map fun x => Value.int .i64 x.2.1).toArray 2)).heap.size = w.heap.size + 1 + 1 := by simp
 rw [e3] at hB3; have hE : Ext w (((w.alloc (.cells (signsL.map fun x => Value.string x.1).toArray 9)).alloc (.cells (signsL.map fun x => Value.int .i64 x.2.1).toArray 2)).alloc (.cells (signsL.map fun x => Value.int .i64 x.2.2).toArray 3)) := (((Chg.refl _ _).alloc _).alloc _).alloc _; have HF := Z_ hE; have H1 := Z_ hB1; have H2 := Z_ hB2; have H3 := Z_ hB3; clear hE hB1 hB2 hB3 e3; go_enter Tryz.func236, Tryz.ntmps236
 go_wp2
 go_ret3
 refine ⟨_, _, _, rfl, fun j hj => ⟨?_, ?_, ?_⟩, ⟨H1.out.lt, H2.out.lt, H3.out.lt⟩, HF.out⟩
 ·exact (H1.out.cell j).trans (by simp [hj])
 ·exact (H2.out.cell j).trans (by simp [hj])
 ·exact (H3.out.cell j).trans (by simp [hj])
set_option maxRecDepth 100000 in
set_option maxHeartbeats 4000000 in
theorem sign_any (s : ByteArray) (w : World) : Calls Tryz.prog 329 #[.string s] w fun e w' => e = .returned (.tuple #[.int .i64 (opOf s).1, .int .i64 (opOf s).2]) ∧ Ext w w' := by
 obtain ⟨T, hT⟩ : ∃ T, opOf s = T := ⟨_, rfl⟩; rw [hT]; have HH := Z_ (fun (j : Nat) (hj : j < signsL.length) (h : signsL[j].1 = s) => (h ▸ op_hit j hj).symm.trans hT); have HM := Z_ (fun h => (op_miss (s := s) h).symm.trans hT); clear hT; go_enter Tryz.func329, Tryz.ntmps329
 go_wp2_with fail
 refine (signs_any _).mono ?_
 rintro e w1 ⟨g1, g2, g3, rfl, hcell, ⟨hl1, hl2, hl3⟩, hE⟩; have HC := Z_ hcell; have hlen : signsL.length = 9 := rfl; clear hcell; generalize signsL = L at *; have HL := Z_ hlen; have HE := Z_ hE; clear hlen hE; go_wp2_with fail
 go_loop [7] (fun i => ∃ j : Nat, j ≤ 9 ∧ i = .int .i64 j ∧ Hid (∀ (q : Nat) (hq : q < L.length), q < j → L[q].1 ≠ s)) (fun i => 9 - (intOf i).toNat)
 case atStart => exact ⟨0, Nat.zero_le _, rfl, fun q hq h => by omega⟩
 case round =>
  obtain ⟨j, hj, rfl, hrel⟩ := hrel; by_cases hlt : j < 9
  ·have hji : (j : Int) < 9 := by omega
   have hjl : j < L.length := by rw [HL.out]; exact hlt
   obtain ⟨hc1, hc2, hc3⟩ := HC.out j hjl; obtain ⟨x, hx⟩ : ∃ x, L[j] = x := ⟨_, rfl⟩; rw [hx] at hc1 hc2 hc3; have HX := Z_ hx; clear hx; obtain ⟨x1, x2, x3⟩ := x; simp only at hc1 hc2 hc3; by_cases he : x1 = s
   ·have hT := (HH.out j hjl (by rw [HX.out]; exact he)).symm
    rw [HX.out] at hT; subst hT; have h2 : (x1.toList == s.toList) = true := by rw [str_eq]; simpa using he
    clear he; go_wp2_with fail
    go_quiet (fail)
    go_wp2_with fail
    go_ret2
    exact ⟨rfl, HE.out.drewN _⟩
   ·have HNE := Z_ he
    have h2 : (x1.toList == s.toList) = false := by rw [str_eq]; simpa using he
    clear he; go_wp2_with fail
    go_round
    case rel =>
     refine ⟨j + 1, by omega, by go_num, fun q hq h => ?_⟩
     by_cases e : q = j
     ·subst e; rw [HX.out]; exact HNE.out
     ·exact hrel.out q hq (by omega)
    case measure => simp [intOf]; omega
  ·obtain rfl : j = 9 := by omega
   have hT := (HM.out (fun q hq => hrel.out q hq (by have := HL.out; omega))).symm; subst hT; clear hrel; go_wp2_with fail
   go_ret2
   exact ⟨rfl, HE.out⟩
end synr
end Go.Proofs.YtpcihajmcejliabGreatDoor
