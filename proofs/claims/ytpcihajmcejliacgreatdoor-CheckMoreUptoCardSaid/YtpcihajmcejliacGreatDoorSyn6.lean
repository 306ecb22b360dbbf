/- The walk of the program's parser: statements. -/
import Derived.Test.YtpcihajmcejliacGreatDoorSyn5
namespace Go.Proofs.YtpcihajmcejliacGreatDoor
open Go.RowKit
namespace synw
set_option maxRecDepth 100000 in
set_option maxHeartbeats 4000000 in
theorem stat_any {n : Nat} (ih : ∀ m, m ≤ n → Good m) {W w : World} {S E : Nat} {l : List Tk} (h : PrAt W w S E l) (hm : MaxVar W) (hne : prs (n + 1) (.stat) l ≠ .out) :
  Calls Tryz.prog 276 #[.pointer (some ⟨S, 0, none⟩)] w (Pst (VN w.heap.size) W w S E (prs (n + 1) (.stat) l)) := by
 obtain ⟨T, hT⟩ : ∃ T, prs (n + 1) (.stat) l = T := ⟨_, rfl⟩; rw [hT] at hne ⊢; simp only [prs] at hT; have HT := Z_ hT; have HNE := Z_ hne; have HM := Z_ hm; have HAT : Hid (At W w (w.alloc (.cells #[.int .i64 0, .string ⟨#[]⟩, .int .i64 0, .slice none 0 0] 24)) S E w.heap.size l) := Z_ (At.start h); obtain ⟨A, hA⟩ : ∃ A, w.heap.size = A := ⟨_, rfl⟩; rw [hA] at HAT; have hSA : S < A := by have := h.lt; omega
 clear h hm hne hT; go_enter Tryz.func276, Tryz.ntmps276
 go_upto_region 1 with (fail)
 generalize w.alloc (.cells #[.int .i64 0, .string ⟨#[]⟩, .int .i64 0, .slice none 0 0] 24) = u0 at *; have hlen := pr_len HAT.out.pr; have HLEN := Z_ hlen; clear hlen; have HB := Z_ ((HAT.out.alloc (.cells #[.int .i64 0, .string ⟨#[]⟩, .int .i64 0, .slice none 0 0] 24)).bld (Blk.made u0 _ _) HAT.out.lt); obtain ⟨N, hN⟩ : ∃ N, u0.heap.size = N := ⟨_, rfl⟩; rw [hN] at HB; have hAN := HAT.out.lt; rw [hN] at hAN; clear HAT; have HAT := Z_ HB.out.at; go_upto_region 5 with (fail)
 generalize u0.alloc (.cells #[.int .i64 0, .string ⟨#[]⟩, .int .i64 0, .slice none 0 0] 24) = u1 at *
 have HH := Z_ (is_any (HAT.out.pr.alloc (.cells #[.string sLow, .string sHigh] 9)) u1.heap.size [sLow, sHigh] 2 2 rfl (by decide) (fun j hj => by
  have hj2 : j < 2 := by simpa using hj
  obtain rfl | rfl : j = 0 ∨ j = 1 := by omega
  ·exact (Blk.made u1 #[.string sLow, .string sHigh] 9).cell 0
  ·exact (Blk.made u1 #[.string sLow, .string sHigh] 9).cell 1) (by simp))
 have hEx := (Chg.refl (fun _ => False) u1).alloc (.cells #[.string sLow, .string sHigh] 9); replace HB := Z_ (HB.out.extend hEx); replace HAT := Z_ HB.out.at; clear hEx; generalize isB l [sLow, sHigh] = R at *; go_wp2_with fail
 refine HH.out.mono ?_
 rintro e u2 ⟨rfl, hE⟩; replace HB := Z_ (HB.out.extend hE); replace HAT := Z_ HB.out.at; clear hE HH; cases R with
 | false =>
  have HT0 := HT.out; clear HT; simp only [Bool.false_eq_true, ↓reduceIte] at HT0; have HT := Z_ HT0; clear HT0; have HH := Z_ (have_any HAT.out.pr sDo); have HLE := Z_ (fun (h : isB l [sDo] = true) => synm.tail_lt h); generalize isB l [sDo] = R at *; go_wp2_with fail
  refine HH.out.mono ?_
  rintro e u3 ⟨rfl, hC, hP⟩; cases R with
  | false =>
   replace hP : PrAt W u3 S E l := by simpa using hP
   have HT0 := HT.out; clear HT; simp only [Bool.false_eq_true, ↓reduceIte] at HT0; have HT := Z_ HT0; clear HT0; replace HB := Z_ (HB.out.call hC hP (Nat.le_refl _)); replace HAT := Z_ HB.out.at; clear hC hP HH HLE; have HH := Z_ (have_any HAT.out.pr sIf); have HLE := Z_ (fun (h : isB l [sIf] = true) => synm.tail_lt h); generalize isB l [sIf] = R at *; go_wp2_with fail
   refine HH.out.mono ?_
   rintro e u4 ⟨rfl, hC, hP⟩; cases R with
   | false =>
    replace hP : PrAt W u4 S E l := by simpa using hP
    have HT0 := HT.out; clear HT; simp only [Bool.false_eq_true, ↓reduceIte] at HT0; have HT := Z_ HT0; clear HT0; replace HB := Z_ (HB.out.call hC hP (Nat.le_refl _)); replace HAT := Z_ HB.out.at; clear hC hP HH HLE; have HH := Z_ (have_any HAT.out.pr sWhile); have HLE := Z_ (fun (h : isB l [sWhile] = true) => synm.tail_lt h); generalize isB l [sWhile] = R at *; go_wp2_with fail
    refine HH.out.mono ?_
    rintro e u5 ⟨rfl, hC, hP⟩; cases R with
    | false =>
     replace hP : PrAt W u5 S E l := by simpa using hP
     have HT0 := HT.out; clear HT; simp only [Bool.false_eq_true, ↓reduceIte] at HT0; have HT := Z_ HT0; clear HT0; replace HB := Z_ (HB.out.call hC hP (Nat.le_refl _)); replace HAT := Z_ HB.out.at; clear hC hP HH HLE; have HH := Z_ (have_any HAT.out.pr sOut); have HLE := Z_ (fun (h : isB l [sOut] = true) => synm.tail_lt h); generalize isB l [sOut] = R at *; go_wp2_with fail
     refine HH.out.mono ?_
     rintro e u6 ⟨rfl, hC, hP⟩; cases R with
     | false =>
      replace hP : PrAt W u6 S E l := by simpa using hP
      have HT0 := HT.out; clear HT; simp only [Bool.false_eq_true, ↓reduceIte] at HT0; have HT := Z_ HT0; clear HT0; replace HB := Z_ (HB.out.call hC hP (Nat.le_refl _)); replace HAT := Z_ HB.out.at; clear hC hP HH HLE; have HH := Z_ (have_any HAT.out.pr sIn); have HLE := Z_ (fun (h : isB l [sIn] = true) => synm.tail_lt h); generalize isB l [sIn] = R at *; go_wp2_with fail
      refine HH.out.mono ?_
      rintro e u7 ⟨rfl, hC, hP⟩; cases R with
      | false =>
       replace hP : PrAt W u7 S E l := by simpa using hP
       have HT0 := HT.out; clear HT; simp only [Bool.false_eq_true, ↓reduceIte] at HT0; have HT := Z_ HT0; clear HT0; replace HB := Z_ (HB.out.call hC hP (Nat.le_refl _)); replace HAT := Z_ HB.out.at; clear hC hP HH HLE; have HH := Z_ (have_any HAT.out.pr sReturn); have HLE := Z_ (fun (h : isB l [sReturn] = true) => synm.tail_lt h); generalize isB l [sReturn] = R at *; go_wp2_with fail
       refine HH.out.mono ?_
       rintro e u8 ⟨rfl, hC, hP⟩; cases R with
       | false =>
        replace hP : PrAt W u8 S E l := by simpa using hP
        have HT0 := HT.out; clear HT; simp only [Bool.false_eq_true, ↓reduceIte] at HT0; have HT := Z_ HT0; clear HT0; replace HB := Z_ (HB.out.call hC hP (Nat.le_refl _)); replace HAT := Z_ HB.out.at; clear hC hP HH HLE; have HN := Z_ (whole_any HAT.out.pr HM.out); go_wp2_with fail
        refine HN.out.mono ?_
        rintro e u9 hr; obtain ⟨hC, ⟨lb, hp, rfl⟩ | ⟨s9, l9, v, hp, rfl, ⟨rfl, hs⟩, hP⟩⟩ := hr.cases (pWhole_ne _)
        ·have HF := Z_ (Out.bind_bad HT.out hp)
         have HC := Z_ (HAT.out.chg.then hC); clear hr hp hC; go_wp2_with fail
         exact ⟨rfl, Pst.fails HC.out HF.out⟩
        replace HT := Z_ (Out.bind_got HT.out hp); have HLT9 := Z_ (synm.whole_lt hp); replace HB := Z_ (HB.out.call hC hP (by have := synm.whole_lt hp; omega)); replace HAT := Z_ HB.out.at; have HSZ := Z_ hs; clear hr hp hC hP HN; clear hs; have HAT0 := HB.out.lt; obtain ⟨B, hB⟩ : ∃ B, u9.heap.size = B := ⟨_, rfl⟩; rw [hB] at HAT0; have HN := Z_ (ih n (Nat.le_refl _) (.place s9) _ _ HAT.out.pr HM.out rfl HSZ.out (Out.bind_ne HT.out HNE.out)); go_wp2_with fail
        refine HN.out.mono ?_
        rintro e u10 hr; obtain ⟨hC, ⟨lb, hp, rfl⟩ | ⟨x10, l10, v10, hp, rfl, hv, hP⟩⟩ := hr.cases (Out.bind_ne HT.out HNE.out)
        ·have HF := Z_ (Out.bind_bad HT.out hp)
         have HC := Z_ (HAT.out.chg.then hC); clear hr hp hC; go_wp2_with fail
         exact ⟨rfl, Pst.fails HC.out HF.out⟩
        replace HT := Z_ (Out.bind_got HT.out hp); have HLT10 := Z_ ((show _ from synm.prs_lt _ _ _ _ _ hp)); replace HB := Z_ (HB.out.call hC hP (by have := synm.prs_lt _ _ _ _ _ hp; omega)); replace HAT := Z_ HB.out.at; obtain ⟨ka10, ta10, ma10, aa10, na10, ca10, rfl⟩ := nd_form hv; have HV10 := Z_ hv; have hsz10 : u9.heap.size ≤ u10.heap.size := hC.size; clear hr hp hC hP hv HN; rw [hB] at HV10 hsz10; have HG := Z_ (grow_one HV10.out (by omega : N + 1 ≤ B) hsz10 (c := #[.int .i64 ka10, .string ta10, .int .i64 ma10, .slice aa10 na10 ca10]) rfl); have hEx := (Chg.refl (fun _ => False) u10).alloc (.cells #[.int .i64 ka10, .string ta10, .int .i64 ma10, .slice aa10 na10 ca10] 24); replace HB := Z_ (HB.out.extend hEx); replace HAT := Z_ HB.out.at; clear hEx; go_wp2_with fail
        refine (node_any _ _ _ _ _ _ _).mono ?_
        rintro e u11 ⟨rfl, hE⟩; replace HB := Z_ (HB.out.extend hE); replace HAT := Z_ HB.out.at; replace HG := Z_ (HG.out.chg vnd_keeps hE (fun _ h => h.elim)); have n0 := HB.out.nd.cell; have nf := HB.out.nd.frozen; have nl := HB.out.nd.lt; go_upto_region 3 with (fail)
        replace HB := Z_ (HB.out.put (kind := 8) (text := ⟨#[]⟩) (num := 0) HG.out (by simp only [List.length_singleton]; have := HLEN.out; have := HLT9.out; have := HLT10.out; omega)); replace HAT := Z_ HB.out.at; clear n0 nf nl hE HG; generalize (((u11.setCell ⟨N, 0, none⟩ (.int .i64 8)).setCell ⟨N, 1, none⟩ (.string ⟨#[]⟩)).setCell ⟨N, 2, none⟩ (.int .i64 0)).setCell ⟨N, 3, none⟩ (.slice (some ⟨u10.heap.size, 0, none⟩) 1 1) = v11 at *; have HN := Z_ (need_any (HAT.out.pr.alloc (.cells #[.string sEq] 9)) v11.heap.size 1 sEq ((Blk.made v11 #[.string sEq] 9).cell 0)); have hEx := (Chg.refl (fun _ => False) v11).alloc (.cells #[.string sEq] 9); replace HB := Z_ (HB.out.extend hEx); replace HAT := Z_ HB.out.at; clear hEx; go_wp2_with fail
        refine HN.out.mono ?_
        rintro e u12 hr; obtain ⟨hC, ⟨lb, hp, rfl⟩ | ⟨_, l12, _, hp, rfl, rfl, hP⟩⟩ := hr.cases (pNeed_ne _ _)
        ·have HF := Z_ (Out.bind_bad HT.out hp)
         have HC := Z_ (HAT.out.chg.then hC); clear hr hp hC; go_wp2_with fail
         exact ⟨rfl, Pst.fails HC.out HF.out⟩
        replace HT := Z_ (Out.bind_got HT.out hp); have HLT12 := Z_ (synm.need_lt hp); replace HB := Z_ (HB.out.call hC hP (by have := synm.need_lt hp; omega)); replace HAT := Z_ HB.out.at; clear hr hp hC hP HN; go_upto_region 4 with (fail)
        refine wp_region_weave [3, 4, 5, 7] (fun i v _ => v = ([.pointer (some ⟨N, 3, none⟩), (.slice (some ⟨u10.heap.size, 0, none⟩) 1 1), .pointer (some ⟨S, 0, none⟩), undef, undef, undef, .pointer (some ⟨N, 3, none⟩), undef] : List Value).getD i undef) (PushF W w S E A N l12 8 ⟨#[]⟩ 0 (.slice (some ⟨u10.heap.size, 0, none⟩) 1 1) [x10] (prs n .expr l12)) (fun _ _ => True) (frame := ?fraa) (fun x => ?hfaa) mixed (by kernel_rfl) (by kernel_rfl) (fun _ _ _ _ h _ => h) ?h0a ?sta ?fina
        case hfaa =>
         simp only [chain.frameOf, chain.fill, chain.setOpt, chain.dstOf, List.size_toArray, List.length_cons, List.length_nil, List.getElem?_toArray, List.getElem?_cons_succ, List.getElem?_cons_zero, List.setIfInBounds_toArray, List.set_cons_succ, List.set_cons_zero]; exact rfl
        case h0a => exact HB.out.extend (Chg.refl _ _).drew
        case sta =>
         refine AllFrom.cons (fun x vs u hF hm hb hd K' hK' => ?sa0) (AllFrom.cons (fun x vs u hF hm hb hd K' hK' => ?sa1) (AllFrom.cons (fun x vs u hF hm hb hd K' hK' => ?sa2) (AllFrom.cons (fun x vs u hF hm hb hd K' hK' => ?sa3) (AllFrom.cons (fun x vs u hF hm hb hd K' hK' => ?sa4) (AllFrom.cons (fun x vs u hF hm hb hd K' hK' => ?sa5) (AllFrom.cons (fun x vs u hF hm hb hd K' hK' => ?sa6) (AllFrom.cons (fun x vs u hF hm hb hd K' hK' => ?sa7) (AllFrom.nil))))))))
         case sa0 =>
          have HF := Z_ hF; clear hd hm hb hF; go_simp; exact hK'.out _ _ _ rfl trivial ⟨rfl, HF.out⟩
         case sa1 =>
          have y0 := hd 0 (by decide) (by kernel_rfl); replace y0 : x 16 = .pointer (some ⟨N, 3, none⟩) := y0; have hc := hF.cell (by have := hb 2 _ (by decide) rfl (by kernel_rfl); omega); have HF := Z_ hF; clear hd hm hb hF; go_simp; exact hK'.out _ _ _ (by simp only [y0]; rfl) trivial ⟨rfl, HF.out⟩
         case sa2 =>
          have HF := Z_ hF; clear hd hm hb hF; go_simp; exact hK'.out _ _ _ rfl trivial ⟨rfl, HF.out⟩
         case sa6 =>
          have HF := Z_ hF; clear hd hm hb hF; go_simp; exact hK'.out _ _ _ rfl trivial ⟨rfl, HF.out⟩
         case sa3 =>
          have y0 := hd 2 (by decide) (by kernel_rfl); replace y0 : x 18 = .pointer (some ⟨S, 0, none⟩) := y0; obtain rfl := List.eq_nil_of_length_eq_zero (hm 0 (by kernel_rfl)); have HF := Z_ (show Bld _ _ _ _ _ _ _ _ _ _ _ _ _ _ from hF); clear hd hm hb hF; have HCA := Z_ (ih n (Nat.le_refl _) .expr _ _ HF.out.pr HM.out rfl trivial (Out.bind_ne HT.out HNE.out)); go_simp; refine HCA.out.mono ?_
          rintro e u2 hr; obtain ⟨hC, ⟨lb, hp, rfl⟩ | ⟨xn, ln, v, hp, rfl, hv, hP⟩⟩ := hr.cases (Out.bind_ne HT.out HNE.out)
          ·have HE := Z_ (Out.bind_bad HT.out hp)
           have HC := Z_ (HF.out.chg.then hC); clear hr hp hC hK' HCA; go_wp2_with fail
           exact ⟨rfl, Pst.fails HC.out HE.out⟩
          ·exact hK'.out _ _ _ (by simp only [y0]; rfl) trivial (push_call HF.out hC hp hv hP (synm.prs_lt _ _ _ _ _ hp))
         case sa4 =>
          obtain ⟨v0, rfl⟩ : ∃ v0, vs = [v0] := by match vs, hm 1 (by kernel_rfl) with | [v0], _ => exact ⟨_, rfl⟩
          have y0 := hd 3 (by decide) (by kernel_rfl) 19 (by kernel_rfl); replace y0 : x 19 = v0 := y0; have hcl : ∃ a b c d, v0 = .agg #[a, b, c, d] := by obtain ⟨xn, ln, _, _, _, hx⟩ := hF; obtain ⟨a, b, c, d, h, _⟩ := nd_cells hx; exact ⟨a, b, c, d, h⟩
          obtain ⟨a0, b0, c0, d0, rfl⟩ := hcl; have HF := Z_ hF; clear hd hm hb hF; go_simp; exact hK'.out _ _ _ (by simp only [y0]; rfl) trivial (push_slice HF.out rfl)
         case sa5 =>
          obtain ⟨v0, v1, rfl⟩ : ∃ v0 v1, vs = [v0, v1] := by match vs, hm 2 (by kernel_rfl) with | [v0, v1], _ => exact ⟨_, _, rfl⟩
          have y0 := hd 1 (by decide) (by kernel_rfl); replace y0 : x 17 = (.slice (some ⟨u10.heap.size, 0, none⟩) 1 1) := y0; have y1 := hd 4 (by decide) (by kernel_rfl) 20 (by kernel_rfl); replace y1 : x 20 = v1 := y1; have hF2 := hF; obtain ⟨xn, ln, hT1, hBB, hfew, hx, gg, rfl, hgb, hgr⟩ := hF2; obtain ⟨us, hu1, ho, hu3⟩ := hBB.grow.ex; have hlt := hBB.lt; obtain ⟨i0_, hi_, hz0, hz1, hz2⟩ := info_split info_node; refine wp_append_lies _ _ _ 22 rfl (N + 1) 24 i0_ (.agg #[.int .i64 0, .string ⟨#[]⟩, .int .i64 0, .slice none 0 0]) 4 56 Tryz.underlying22 hi_ hz0 hz1 hz2 rfl (by decide) (.slice (some ⟨u10.heap.size, 0, none⟩) 1 1) [x10].length (us.flatMap fun u => u.cells.toList) y0 ho ⟨gg, 0, none⟩ 1 1 v0.cells.toList y1 (by rw [Array.length_toList, nd_size hx]) ?_ (by obtain ⟨a, b, c, d, e, e2, p1, p2, p3, p4⟩ := nd_cells hx; rw [e2]; intro q hq; simp at hq; rcases hq with rfl | rfl | rfl | rfl <;> assumption) (by decide) (by unfold maxLen; omega) (by omega) (by omega) u.heap.size rfl ?_
          ·intro j q hj; have e : (⟨gg, 0, none⟩ : Addr).add j = ⟨gg, j, none⟩ := (by unfold Addr.add; split <;> simp_all); rw [e, hgb.cell]; simpa using hj
          ·intro g9 c9 w9 ho9 hg9 ha9 hl9
           exact hK'.out _ _ _ rfl trivial (push_append hF hu1 hu3 ho9 hg9 ha9)
         case sa7 =>
          obtain ⟨v0, v1, v2, rfl⟩ : ∃ v0 v1 v2, vs = [v0, v1, v2] := by match vs, hm 3 (by kernel_rfl) with | [v0, v1, v2], _ => exact ⟨_, _, _, rfl⟩
          have y0 := hd 6 (by decide) (by kernel_rfl); replace y0 : x 22 = .pointer (some ⟨N, 3, none⟩) := y0; have y1 := hd 5 (by decide) (by kernel_rfl) 21 (by kernel_rfl); replace y1 : x 21 = v2 := y1; have hF2 := hF; obtain ⟨xn, ln, hT1, hBB, gg, cc, rfl⟩ := hF2; have hc := hBB.nd.cell 3; have hf := hBB.nd.frozen 3; have hl := hBB.lt; simp at hc
          have HF := Z_ hF; clear hd hm hb hF hBB hT1; go_simp; exact hK'.out _ _ undef (by simp only [y0, y1]; rfl) trivial (push_store HF.out)
        case fina =>
         intro x vs w9 hl hF hk; obtain ⟨v0, v1, v2, v3, rfl⟩ : ∃ v0 v1 v2 v3, vs = [v0, v1, v2, v3] := by match vs, hl with | [v0, v1, v2, v3], _ => exact ⟨_, _, _, _, rfl⟩
         obtain ⟨xna, lna, hT1, hB9⟩ := hF; clear hk hl; replace HT := Z_ (Out.bind_got HT.out hT1.out); replace HB := Z_ hB9; replace HAT := Z_ HB.out.at; clear hT1 hB9; have HT0 := HT.out; clear HT; unfold semi at HT0; have HT := Z_ HT0; clear HT0; have HN := Z_ (need_any (HAT.out.pr.alloc (.cells #[.string sSemi] 9)) w9.heap.size 1 sSemi ((Blk.made w9 #[.string sSemi] 9).cell 0)); have hEx := (Chg.refl (fun _ => False) w9).alloc (.cells #[.string sSemi] 9); replace HB := Z_ (HB.out.extend hEx); replace HAT := Z_ HB.out.at; clear hEx; go_wp2_with fail
         refine HN.out.mono ?_
         rintro e u13 hr; obtain ⟨hC, ⟨lb, hp, rfl⟩ | ⟨_, l13, _, hp, rfl, rfl, hP⟩⟩ := hr.cases (pNeed_ne _ _)
         ·have HF := Z_ (Out.bind_bad HT.out hp)
          have HC := Z_ (HAT.out.chg.then hC); clear hr hp hC; go_wp2_with fail
          exact ⟨rfl, Pst.fails HC.out HF.out⟩
         replace HT := Z_ (Out.bind_got HT.out hp); have HLT13 := Z_ (synm.need_lt hp); replace HB := Z_ (HB.out.call hC hP (by have := synm.need_lt hp; omega)); replace HAT := Z_ HB.out.at; clear hr hp hC hP HN; obtain ⟨ra, rn, rc, hrow⟩ := HB.out.slice3
         first | subst hrow | clear hrow
         have c0 := HB.out.nd.cell 0; have c1 := HB.out.nd.cell 1; have c2 := HB.out.nd.cell 2; have c3 := HB.out.nd.cell 3; have r0 := HB.out.res.cell; have rf := HB.out.res.frozen; have rl := HB.out.res.lt; unfold zeroNd at r0; simp at c0 c1 c2 c3
         go_wp2_with fail
         refine ends_at rfl rfl rfl ((((HB.out.res.set 0 _).set 1 _).set 2 _).set 3 _) Tryz.underlying24 rfl (by kernel_rfl) ?_
         exact HB.out.ret (by decide) (HT.out.symm) _ _ _ _
       | true =>
        have HLT13 := Z_ (HLE.out rfl); replace hP : PrAt W u8 S E l.tail := by simpa using hP
        have HT0 := HT.out; clear HT; simp only [↓reduceIte] at HT0; have HT := Z_ HT0; clear HT0; replace HB := Z_ (HB.out.call hC hP (by have := HLE.out rfl; omega)); replace HAT := Z_ HB.out.at; clear hC hP HH HLE; have HAT0 := HB.out.lt; obtain ⟨B, hB⟩ : ∃ B, u8.heap.size = B := ⟨_, rfl⟩; rw [hB] at HAT0; have HN := Z_ (ih n (Nat.le_refl _) (.expr) _ _ HAT.out.pr HM.out rfl trivial (Out.bind_ne HT.out HNE.out)); go_wp2_with fail
        refine HN.out.mono ?_
        rintro e u14 hr; obtain ⟨hC, ⟨lb, hp, rfl⟩ | ⟨x14, l14, v14, hp, rfl, hv, hP⟩⟩ := hr.cases (Out.bind_ne HT.out HNE.out)
        ·have HF := Z_ (Out.bind_bad HT.out hp)
         have HC := Z_ (HAT.out.chg.then hC); clear hr hp hC; go_wp2_with fail
         exact ⟨rfl, Pst.fails HC.out HF.out⟩
        replace HT := Z_ (Out.bind_got HT.out hp); have HLT14 := Z_ ((show _ from synm.prs_lt _ _ _ _ _ hp)); replace HB := Z_ (HB.out.call hC hP (by have := synm.prs_lt _ _ _ _ _ hp; omega)); replace HAT := Z_ HB.out.at; obtain ⟨ka14, ta14, ma14, aa14, na14, ca14, rfl⟩ := nd_form hv; have HV14 := Z_ hv; have hsz14 : u8.heap.size ≤ u14.heap.size := hC.size; clear hr hp hC hP hv HN; rw [hB] at HV14 hsz14; have HG := Z_ (grow_one HV14.out (by omega : N + 1 ≤ B) hsz14 (c := #[.int .i64 ka14, .string ta14, .int .i64 ma14, .slice aa14 na14 ca14]) rfl); have hEx := (Chg.refl (fun _ => False) u14).alloc (.cells #[.int .i64 ka14, .string ta14, .int .i64 ma14, .slice aa14 na14 ca14] 24); replace HB := Z_ (HB.out.extend hEx); replace HAT := Z_ HB.out.at; clear hEx; go_wp2_with fail
        refine (node_any _ _ _ _ _ _ _).mono ?_
        rintro e u15 ⟨rfl, hE⟩; replace HB := Z_ (HB.out.extend hE); replace HAT := Z_ HB.out.at; replace HG := Z_ (HG.out.chg vnd_keeps hE (fun _ h => h.elim)); have n0 := HB.out.nd.cell; have nf := HB.out.nd.frozen; have nl := HB.out.nd.lt; go_upto_region 30 with (fail)
        replace HB := Z_ (HB.out.put (kind := 14) (text := ⟨#[]⟩) (num := 0) HG.out (by simp only [List.length_singleton]; have := HLEN.out; have := HLT13.out; have := HLT14.out; omega)); replace HAT := Z_ HB.out.at; clear n0 nf nl hE HG; generalize (((u15.setCell ⟨N, 0, none⟩ (.int .i64 14)).setCell ⟨N, 1, none⟩ (.string ⟨#[]⟩)).setCell ⟨N, 2, none⟩ (.int .i64 0)).setCell ⟨N, 3, none⟩ (.slice (some ⟨u14.heap.size, 0, none⟩) 1 1) = v15 at *; have HT0 := HT.out; clear HT; unfold semi at HT0; have HT := Z_ HT0; clear HT0; have HN := Z_ (need_any (HAT.out.pr.alloc (.cells #[.string sSemi] 9)) v15.heap.size 1 sSemi ((Blk.made v15 #[.string sSemi] 9).cell 0)); have hEx := (Chg.refl (fun _ => False) v15).alloc (.cells #[.string sSemi] 9); replace HB := Z_ (HB.out.extend hEx); replace HAT := Z_ HB.out.at; clear hEx; go_wp2_with fail
        refine HN.out.mono ?_
        rintro e u16 hr; obtain ⟨hC, ⟨lb, hp, rfl⟩ | ⟨_, l16, _, hp, rfl, rfl, hP⟩⟩ := hr.cases (pNeed_ne _ _)
        ·have HF := Z_ (Out.bind_bad HT.out hp)
         have HC := Z_ (HAT.out.chg.then hC); clear hr hp hC; go_wp2_with fail
         exact ⟨rfl, Pst.fails HC.out HF.out⟩
        replace HT := Z_ (Out.bind_got HT.out hp); have HLT16 := Z_ (synm.need_lt hp); replace HB := Z_ (HB.out.call hC hP (by have := synm.need_lt hp; omega)); replace HAT := Z_ HB.out.at; clear hr hp hC hP HN; obtain ⟨ra, rn, rc, hrow⟩ := HB.out.slice3
        first | subst hrow | clear hrow
        have c0 := HB.out.nd.cell 0; have c1 := HB.out.nd.cell 1; have c2 := HB.out.nd.cell 2; have c3 := HB.out.nd.cell 3; have r0 := HB.out.res.cell; have rf := HB.out.res.frozen; have rl := HB.out.res.lt; unfold zeroNd at r0; simp at c0 c1 c2 c3
        go_wp2_with fail
        refine ends_at rfl rfl rfl ((((HB.out.res.set 0 _).set 1 _).set 2 _).set 3 _) Tryz.underlying24 rfl (by kernel_rfl) ?_
        exact HB.out.ret (by decide) (HT.out.symm) _ _ _ _
      | true =>
       have HLT17 := Z_ (HLE.out rfl); replace hP : PrAt W u7 S E l.tail := by simpa using hP
       have HT0 := HT.out; clear HT; simp only [↓reduceIte] at HT0; have HT := Z_ HT0; clear HT0; replace HB := Z_ (HB.out.call hC hP (by have := HLE.out rfl; omega)); replace HAT := Z_ HB.out.at; clear hC hP HH HLE; have HN := Z_ (label_any HAT.out.pr); go_wp2_with fail
       refine HN.out.mono ?_
       rintro e u18 hr; obtain ⟨hC, ⟨lb, hp, rfl⟩ | ⟨b18, l18, v, hp, rfl, ⟨rfl, hb0, hb1⟩, hP⟩⟩ := hr.cases (pLabel_ne _)
       ·have HF := Z_ (Out.bind_bad HT.out hp)
        have HC := Z_ (HAT.out.chg.then hC); clear hr hp hC; go_wp2_with fail
        exact ⟨rfl, Pst.fails HC.out HF.out⟩
       replace HT := Z_ (Out.bind_got HT.out hp); have HLT18 := Z_ (synm.label_lt hp); replace HB := Z_ (HB.out.call hC hP (by have := synm.label_lt hp; omega)); replace HAT := Z_ HB.out.at; have HBL := Z_ (And.intro hb0 hb1); clear hr hp hC hP HN; clear hb0 hb1; have HN := Z_ (whole_any HAT.out.pr HM.out); go_wp2_with fail
       refine HN.out.mono ?_
       rintro e u19 hr; obtain ⟨hC, ⟨lb, hp, rfl⟩ | ⟨s19, l19, v, hp, rfl, ⟨rfl, hs⟩, hP⟩⟩ := hr.cases (pWhole_ne _)
       ·have HF := Z_ (Out.bind_bad HT.out hp)
        have HC := Z_ (HAT.out.chg.then hC); clear hr hp hC; go_wp2_with fail
        exact ⟨rfl, Pst.fails HC.out HF.out⟩
       replace HT := Z_ (Out.bind_got HT.out hp); have HLT19 := Z_ (synm.whole_lt hp); replace HB := Z_ (HB.out.call hC hP (by have := synm.whole_lt hp; omega)); replace HAT := Z_ HB.out.at; have HSZ := Z_ hs; clear hr hp hC hP HN; clear hs; have HAT0 := HB.out.lt; obtain ⟨B, hB⟩ : ∃ B, u19.heap.size = B := ⟨_, rfl⟩; rw [hB] at HAT0; have HN := Z_ (ih n (Nat.le_refl _) (.place s19) _ _ HAT.out.pr HM.out rfl HSZ.out (Out.bind_ne HT.out HNE.out)); go_wp2_with fail
       refine HN.out.mono ?_
       rintro e u20 hr; obtain ⟨hC, ⟨lb, hp, rfl⟩ | ⟨x20, l20, v20, hp, rfl, hv, hP⟩⟩ := hr.cases (Out.bind_ne HT.out HNE.out)
       ·have HF := Z_ (Out.bind_bad HT.out hp)
        have HC := Z_ (HAT.out.chg.then hC); clear hr hp hC; go_wp2_with fail
        exact ⟨rfl, Pst.fails HC.out HF.out⟩
       replace HT := Z_ (Out.bind_got HT.out hp); have HLT20 := Z_ ((show _ from synm.prs_lt _ _ _ _ _ hp)); replace HB := Z_ (HB.out.call hC hP (by have := synm.prs_lt _ _ _ _ _ hp; omega)); replace HAT := Z_ HB.out.at; obtain ⟨ka20, ta20, ma20, aa20, na20, ca20, rfl⟩ := nd_form hv; have HV20 := Z_ hv; have hsz20 : u19.heap.size ≤ u20.heap.size := hC.size; clear hr hp hC hP hv HN; rw [hB] at HV20 hsz20; have HG := Z_ (grow_one HV20.out (by omega : N + 1 ≤ B) hsz20 (c := #[.int .i64 ka20, .string ta20, .int .i64 ma20, .slice aa20 na20 ca20]) rfl); have hEx := (Chg.refl (fun _ => False) u20).alloc (.cells #[.int .i64 ka20, .string ta20, .int .i64 ma20, .slice aa20 na20 ca20] 24); replace HB := Z_ (HB.out.extend hEx); replace HAT := Z_ HB.out.at; clear hEx; go_wp2_with fail
       refine (node_any _ _ _ _ _ _ _).mono ?_
       rintro e u21 ⟨rfl, hE⟩; replace HB := Z_ (HB.out.extend hE); replace HAT := Z_ HB.out.at; replace HG := Z_ (HG.out.chg vnd_keeps hE (fun _ h => h.elim)); have n0 := HB.out.nd.cell; have nf := HB.out.nd.frozen; have nl := HB.out.nd.lt; go_upto_region 30 with (fail)
       replace HB := Z_ (HB.out.put (kind := 13) (text := ⟨#[]⟩) (num := b18) HG.out (by simp only [List.length_singleton]; have := HLEN.out; have := HLT17.out; have := HLT18.out; have := HLT19.out; have := HLT20.out; omega)); replace HAT := Z_ HB.out.at; clear n0 nf nl hE HG; generalize (((u21.setCell ⟨N, 0, none⟩ (.int .i64 13)).setCell ⟨N, 1, none⟩ (.string ⟨#[]⟩)).setCell ⟨N, 2, none⟩ (.int .i64 b18)).setCell ⟨N, 3, none⟩ (.slice (some ⟨u20.heap.size, 0, none⟩) 1 1) = v21 at *; have HT0 := HT.out; clear HT; unfold semi at HT0; have HT := Z_ HT0; clear HT0; have HN := Z_ (need_any (HAT.out.pr.alloc (.cells #[.string sSemi] 9)) v21.heap.size 1 sSemi ((Blk.made v21 #[.string sSemi] 9).cell 0)); have hEx := (Chg.refl (fun _ => False) v21).alloc (.cells #[.string sSemi] 9); replace HB := Z_ (HB.out.extend hEx); replace HAT := Z_ HB.out.at
       clear hEx; go_wp2_with fail
       refine HN.out.mono ?_
       rintro e u22 hr; obtain ⟨hC, ⟨lb, hp, rfl⟩ | ⟨_, l22, _, hp, rfl, rfl, hP⟩⟩ := hr.cases (pNeed_ne _ _)
       ·have HF := Z_ (Out.bind_bad HT.out hp)
        have HC := Z_ (HAT.out.chg.then hC); clear hr hp hC; go_wp2_with fail
        exact ⟨rfl, Pst.fails HC.out HF.out⟩
       replace HT := Z_ (Out.bind_got HT.out hp); have HLT22 := Z_ (synm.need_lt hp); replace HB := Z_ (HB.out.call hC hP (by have := synm.need_lt hp; omega)); replace HAT := Z_ HB.out.at; clear hr hp hC hP HN; obtain ⟨ra, rn, rc, hrow⟩ := HB.out.slice3
       first | subst hrow | clear hrow
       have c0 := HB.out.nd.cell 0; have c1 := HB.out.nd.cell 1; have c2 := HB.out.nd.cell 2; have c3 := HB.out.nd.cell 3; have r0 := HB.out.res.cell; have rf := HB.out.res.frozen; have rl := HB.out.res.lt; unfold zeroNd at r0; simp at c0 c1 c2 c3
       go_wp2_with fail
       refine ends_at rfl rfl rfl ((((HB.out.res.set 0 _).set 1 _).set 2 _).set 3 _) Tryz.underlying24 rfl (by kernel_rfl) ?_
       exact HB.out.ret (by decide) (HT.out.symm) _ _ _ _
     | true =>
      have HLT23 := Z_ (HLE.out rfl); replace hP : PrAt W u6 S E l.tail := by simpa using hP
      have HT0 := HT.out; clear HT; simp only [↓reduceIte] at HT0; have HT := Z_ HT0; clear HT0; replace HB := Z_ (HB.out.call hC hP (by have := HLE.out rfl; omega)); replace HAT := Z_ HB.out.at; clear hC hP HH HLE; have HN := Z_ (label_any HAT.out.pr); go_wp2_with fail
      refine HN.out.mono ?_
      rintro e u24 hr; obtain ⟨hC, ⟨lb, hp, rfl⟩ | ⟨b24, l24, v, hp, rfl, ⟨rfl, hb0, hb1⟩, hP⟩⟩ := hr.cases (pLabel_ne _)
      ·have HF := Z_ (Out.bind_bad HT.out hp)
       have HC := Z_ (HAT.out.chg.then hC); clear hr hp hC; go_wp2_with fail
       exact ⟨rfl, Pst.fails HC.out HF.out⟩
      replace HT := Z_ (Out.bind_got HT.out hp); have HLT24 := Z_ (synm.label_lt hp); replace HB := Z_ (HB.out.call hC hP (by have := synm.label_lt hp; omega)); replace HAT := Z_ HB.out.at; have HBL := Z_ (And.intro hb0 hb1); clear hr hp hC hP HN; clear hb0 hb1; have HAT0 := HB.out.lt; obtain ⟨B, hB⟩ : ∃ B, u24.heap.size = B := ⟨_, rfl⟩; rw [hB] at HAT0; have HN := Z_ (ih n (Nat.le_refl _) (.expr) _ _ HAT.out.pr HM.out rfl trivial (Out.bind_ne HT.out HNE.out)); go_wp2_with fail
      refine HN.out.mono ?_
      rintro e u25 hr; obtain ⟨hC, ⟨lb, hp, rfl⟩ | ⟨x25, l25, v25, hp, rfl, hv, hP⟩⟩ := hr.cases (Out.bind_ne HT.out HNE.out)
      ·have HF := Z_ (Out.bind_bad HT.out hp)
       have HC := Z_ (HAT.out.chg.then hC); clear hr hp hC; go_wp2_with fail
       exact ⟨rfl, Pst.fails HC.out HF.out⟩
      replace HT := Z_ (Out.bind_got HT.out hp); have HLT25 := Z_ ((show _ from synm.prs_lt _ _ _ _ _ hp)); replace HB := Z_ (HB.out.call hC hP (by have := synm.prs_lt _ _ _ _ _ hp; omega)); replace HAT := Z_ HB.out.at; obtain ⟨ka25, ta25, ma25, aa25, na25, ca25, rfl⟩ := nd_form hv; have HV25 := Z_ hv; have hsz25 : u24.heap.size ≤ u25.heap.size := hC.size; clear hr hp hC hP hv HN; rw [hB] at HV25 hsz25; have HG := Z_ (grow_one HV25.out (by omega : N + 1 ≤ B) hsz25 (c := #[.int .i64 ka25, .string ta25, .int .i64 ma25, .slice aa25 na25 ca25]) rfl); have hEx := (Chg.refl (fun _ => False) u25).alloc (.cells #[.int .i64 ka25, .string ta25, .int .i64 ma25, .slice aa25 na25 ca25] 24); replace HB := Z_ (HB.out.extend hEx); replace HAT := Z_ HB.out.at; clear hEx; go_wp2_with fail
      refine (node_any _ _ _ _ _ _ _).mono ?_
      rintro e u26 ⟨rfl, hE⟩; replace HB := Z_ (HB.out.extend hE); replace HAT := Z_ HB.out.at; replace HG := Z_ (HG.out.chg vnd_keeps hE (fun _ h => h.elim)); have n0 := HB.out.nd.cell; have nf := HB.out.nd.frozen; have nl := HB.out.nd.lt; go_upto_region 30 with (fail)
      replace HB := Z_ (HB.out.put (kind := 12) (text := ⟨#[]⟩) (num := b24) HG.out (by simp only [List.length_singleton]; have := HLEN.out; have := HLT23.out; have := HLT24.out; have := HLT25.out; omega)); replace HAT := Z_ HB.out.at; clear n0 nf nl hE HG; generalize (((u26.setCell ⟨N, 0, none⟩ (.int .i64 12)).setCell ⟨N, 1, none⟩ (.string ⟨#[]⟩)).setCell ⟨N, 2, none⟩ (.int .i64 b24)).setCell ⟨N, 3, none⟩ (.slice (some ⟨u25.heap.size, 0, none⟩) 1 1) = v26 at *; have HT0 := HT.out; clear HT; unfold semi at HT0; have HT := Z_ HT0; clear HT0; have HN := Z_ (need_any (HAT.out.pr.alloc (.cells #[.string sSemi] 9)) v26.heap.size 1 sSemi ((Blk.made v26 #[.string sSemi] 9).cell 0)); have hEx := (Chg.refl (fun _ => False) v26).alloc (.cells #[.string sSemi] 9); replace HB := Z_ (HB.out.extend hEx); replace HAT := Z_ HB.out.at; clear hEx
      go_wp2_with fail
      refine HN.out.mono ?_
      rintro e u27 hr; obtain ⟨hC, ⟨lb, hp, rfl⟩ | ⟨_, l27, _, hp, rfl, rfl, hP⟩⟩ := hr.cases (pNeed_ne _ _)
      ·have HF := Z_ (Out.bind_bad HT.out hp)
       have HC := Z_ (HAT.out.chg.then hC); clear hr hp hC; go_wp2_with fail
       exact ⟨rfl, Pst.fails HC.out HF.out⟩
      replace HT := Z_ (Out.bind_got HT.out hp); have HLT27 := Z_ (synm.need_lt hp); replace HB := Z_ (HB.out.call hC hP (by have := synm.need_lt hp; omega)); replace HAT := Z_ HB.out.at; clear hr hp hC hP HN; obtain ⟨ra, rn, rc, hrow⟩ := HB.out.slice3
      first | subst hrow | clear hrow
      have c0 := HB.out.nd.cell 0; have c1 := HB.out.nd.cell 1; have c2 := HB.out.nd.cell 2; have c3 := HB.out.nd.cell 3; have r0 := HB.out.res.cell; have rf := HB.out.res.frozen; have rl := HB.out.res.lt; unfold zeroNd at r0; simp at c0 c1 c2 c3
      go_wp2_with fail
      refine ends_at rfl rfl rfl ((((HB.out.res.set 0 _).set 1 _).set 2 _).set 3 _) Tryz.underlying24 rfl (by kernel_rfl) ?_
      exact HB.out.ret (by decide) (HT.out.symm) _ _ _ _
    | true =>
     have HLT28 := Z_ (HLE.out rfl); replace hP : PrAt W u5 S E l.tail := by simpa using hP
     have HT0 := HT.out; clear HT; simp only [↓reduceIte] at HT0; have HT := Z_ HT0; clear HT0; replace HB := Z_ (HB.out.call hC hP (by have := HLE.out rfl; omega)); replace HAT := Z_ HB.out.at; clear hC hP HH HLE; have HAT0 := HB.out.lt; obtain ⟨B, hB⟩ : ∃ B, u5.heap.size = B := ⟨_, rfl⟩; rw [hB] at HAT0; have HN := Z_ (ih n (Nat.le_refl _) (.asked) _ _ HAT.out.pr HM.out rfl trivial (Out.bind_ne HT.out HNE.out)); go_wp2_with fail
     refine HN.out.mono ?_
     rintro e u29 hr; obtain ⟨hC, ⟨lb, hp, rfl⟩ | ⟨x29, l29, v29, hp, rfl, hv, hP⟩⟩ := hr.cases (Out.bind_ne HT.out HNE.out)
     ·have HF := Z_ (Out.bind_bad HT.out hp)
      have HC := Z_ (HAT.out.chg.then hC); clear hr hp hC; go_wp2_with fail
      exact ⟨rfl, Pst.fails HC.out HF.out⟩
     replace HT := Z_ (Out.bind_got HT.out hp); have HLT29 := Z_ ((show _ from synm.prs_lt _ _ _ _ _ hp)); replace HB := Z_ (HB.out.call hC hP (by have := synm.prs_lt _ _ _ _ _ hp; omega)); replace HAT := Z_ HB.out.at; obtain ⟨ka29, ta29, ma29, aa29, na29, ca29, rfl⟩ := nd_form hv; have HV29 := Z_ hv; have hsz29 : u5.heap.size ≤ u29.heap.size := hC.size; clear hr hp hC hP hv HN; rw [hB] at HV29 hsz29; have HG := Z_ (grow_one HV29.out (by omega : N + 1 ≤ B) hsz29 (c := #[.int .i64 ka29, .string ta29, .int .i64 ma29, .slice aa29 na29 ca29]) rfl); have hEx := (Chg.refl (fun _ => False) u29).alloc (.cells #[.int .i64 ka29, .string ta29, .int .i64 ma29, .slice aa29 na29 ca29] 24); replace HB := Z_ (HB.out.extend hEx); replace HAT := Z_ HB.out.at; clear hEx; go_wp2_with fail
     refine (node_any _ _ _ _ _ _ _).mono ?_
     rintro e u30 ⟨rfl, hE⟩; replace HB := Z_ (HB.out.extend hE); replace HAT := Z_ HB.out.at; replace HG := Z_ (HG.out.chg vnd_keeps hE (fun _ h => h.elim)); have n0 := HB.out.nd.cell; have nf := HB.out.nd.frozen; have nl := HB.out.nd.lt; go_upto_region 20 with (fail)
     replace HB := Z_ (HB.out.put (kind := 11) (text := ⟨#[]⟩) (num := 0) HG.out (by simp only [List.length_singleton]; have := HLEN.out; have := HLT28.out; have := HLT29.out; omega)); replace HAT := Z_ HB.out.at; clear n0 nf nl hE HG; generalize (((u30.setCell ⟨N, 0, none⟩ (.int .i64 11)).setCell ⟨N, 1, none⟩ (.string ⟨#[]⟩)).setCell ⟨N, 2, none⟩ (.int .i64 0)).setCell ⟨N, 3, none⟩ (.slice (some ⟨u29.heap.size, 0, none⟩) 1 1) = v30 at *; go_upto_region 20 with (fail)
     refine wp_region_weave [3, 4, 5, 7] (fun i v _ => v = ([.pointer (some ⟨N, 3, none⟩), (.slice (some ⟨u29.heap.size, 0, none⟩) 1 1), .pointer (some ⟨S, 0, none⟩), undef, undef, undef, .pointer (some ⟨N, 3, none⟩), undef] : List Value).getD i undef) (PushF W w S E A N l29 11 ⟨#[]⟩ 0 (.slice (some ⟨u29.heap.size, 0, none⟩) 1 1) [x29] (prs n .block l29)) (fun _ _ => True) (frame := ?frab) (fun x => ?hfab) mixed (by kernel_rfl) (by kernel_rfl) (fun _ _ _ _ h _ => h) ?h0b ?stb ?finb
     case hfab =>
      simp only [chain.frameOf, chain.fill, chain.setOpt, chain.dstOf, List.size_toArray, List.length_cons, List.length_nil, List.getElem?_toArray, List.getElem?_cons_succ, List.getElem?_cons_zero, List.setIfInBounds_toArray, List.set_cons_succ, List.set_cons_zero]; exact rfl
     case h0b => exact HB.out.extend (Chg.refl _ _).drew
     case stb =>
      refine AllFrom.cons (fun x vs u hF hm hb hd K' hK' => ?sb0) (AllFrom.cons (fun x vs u hF hm hb hd K' hK' => ?sb1) (AllFrom.cons (fun x vs u hF hm hb hd K' hK' => ?sb2) (AllFrom.cons (fun x vs u hF hm hb hd K' hK' => ?sb3) (AllFrom.cons (fun x vs u hF hm hb hd K' hK' => ?sb4) (AllFrom.cons (fun x vs u hF hm hb hd K' hK' => ?sb5) (AllFrom.cons (fun x vs u hF hm hb hd K' hK' => ?sb6) (AllFrom.cons (fun x vs u hF hm hb hd K' hK' => ?sb7) (AllFrom.nil))))))))
      case sb0 =>
       have HF := Z_ hF; clear hd hm hb hF; go_simp; exact hK'.out _ _ _ rfl trivial ⟨rfl, HF.out⟩
      case sb1 =>
       have y0 := hd 0 (by decide) (by kernel_rfl); replace y0 : x 83 = .pointer (some ⟨N, 3, none⟩) := y0; have hc := hF.cell (by have := hb 2 _ (by decide) rfl (by kernel_rfl); omega); have HF := Z_ hF; clear hd hm hb hF; go_simp; exact hK'.out _ _ _ (by simp only [y0]; rfl) trivial ⟨rfl, HF.out⟩
      case sb2 =>
       have HF := Z_ hF; clear hd hm hb hF; go_simp; exact hK'.out _ _ _ rfl trivial ⟨rfl, HF.out⟩
      case sb6 =>
       have HF := Z_ hF; clear hd hm hb hF; go_simp; exact hK'.out _ _ _ rfl trivial ⟨rfl, HF.out⟩
      case sb3 =>
       have y0 := hd 2 (by decide) (by kernel_rfl); replace y0 : x 85 = .pointer (some ⟨S, 0, none⟩) := y0; obtain rfl := List.eq_nil_of_length_eq_zero (hm 0 (by kernel_rfl)); have HF := Z_ (show Bld _ _ _ _ _ _ _ _ _ _ _ _ _ _ from hF); clear hd hm hb hF; have HCA := Z_ (ih n (Nat.le_refl _) .block _ _ HF.out.pr HM.out rfl trivial (Out.bind_ne HT.out HNE.out)); go_simp; refine HCA.out.mono ?_
       rintro e u2 hr; obtain ⟨hC, ⟨lb, hp, rfl⟩ | ⟨xn, ln, v, hp, rfl, hv, hP⟩⟩ := hr.cases (Out.bind_ne HT.out HNE.out)
       ·have HE := Z_ (Out.bind_bad HT.out hp)
        have HC := Z_ (HF.out.chg.then hC); clear hr hp hC hK' HCA; go_wp2_with fail
        exact ⟨rfl, Pst.fails HC.out HE.out⟩
       ·exact hK'.out _ _ _ (by simp only [y0]; rfl) trivial (push_call HF.out hC hp hv hP (synm.prs_lt _ _ _ _ _ hp))
      case sb4 =>
       obtain ⟨v0, rfl⟩ : ∃ v0, vs = [v0] := by match vs, hm 1 (by kernel_rfl) with | [v0], _ => exact ⟨_, rfl⟩
       have y0 := hd 3 (by decide) (by kernel_rfl) 86 (by kernel_rfl); replace y0 : x 86 = v0 := y0; have hcl : ∃ a b c d, v0 = .agg #[a, b, c, d] := by obtain ⟨xn, ln, _, _, _, hx⟩ := hF; obtain ⟨a, b, c, d, h, _⟩ := nd_cells hx; exact ⟨a, b, c, d, h⟩
       obtain ⟨a0, b0, c0, d0, rfl⟩ := hcl; have HF := Z_ hF; clear hd hm hb hF; go_simp; exact hK'.out _ _ _ (by simp only [y0]; rfl) trivial (push_slice HF.out rfl)
      case sb5 =>
       obtain ⟨v0, v1, rfl⟩ : ∃ v0 v1, vs = [v0, v1] := by match vs, hm 2 (by kernel_rfl) with | [v0, v1], _ => exact ⟨_, _, rfl⟩
       have y0 := hd 1 (by decide) (by kernel_rfl); replace y0 : x 84 = (.slice (some ⟨u29.heap.size, 0, none⟩) 1 1) := y0; have y1 := hd 4 (by decide) (by kernel_rfl) 87 (by kernel_rfl); replace y1 : x 87 = v1 := y1; have hF2 := hF; obtain ⟨xn, ln, hT1, hBB, hfew, hx, gg, rfl, hgb, hgr⟩ := hF2; obtain ⟨us, hu1, ho, hu3⟩ := hBB.grow.ex; have hlt := hBB.lt; obtain ⟨i0_, hi_, hz0, hz1, hz2⟩ := info_split info_node; refine wp_append_lies _ _ _ 22 rfl (N + 1) 24 i0_ (.agg #[.int .i64 0, .string ⟨#[]⟩, .int .i64 0, .slice none 0 0]) 4 56 Tryz.underlying22 hi_ hz0 hz1 hz2 rfl (by decide) (.slice (some ⟨u29.heap.size, 0, none⟩) 1 1) [x29].length (us.flatMap fun u => u.cells.toList) y0 ho ⟨gg, 0, none⟩ 1 1 v0.cells.toList y1 (by rw [Array.length_toList, nd_size hx]) ?_ (by obtain ⟨a, b, c, d, e, e2, p1, p2, p3, p4⟩ := nd_cells hx; rw [e2]; intro q hq; simp at hq; rcases hq with rfl | rfl | rfl | rfl <;> assumption) (by decide) (by unfold maxLen; omega) (by omega) (by omega) u.heap.size rfl ?_
       ·intro j q hj; have e : (⟨gg, 0, none⟩ : Addr).add j = ⟨gg, j, none⟩ := (by unfold Addr.add; split <;> simp_all); rw [e, hgb.cell]; simpa using hj
       ·intro g9 c9 w9 ho9 hg9 ha9 hl9
        exact hK'.out _ _ _ rfl trivial (push_append hF hu1 hu3 ho9 hg9 ha9)
      case sb7 =>
       obtain ⟨v0, v1, v2, rfl⟩ : ∃ v0 v1 v2, vs = [v0, v1, v2] := by match vs, hm 3 (by kernel_rfl) with | [v0, v1, v2], _ => exact ⟨_, _, _, rfl⟩
       have y0 := hd 6 (by decide) (by kernel_rfl); replace y0 : x 89 = .pointer (some ⟨N, 3, none⟩) := y0; have y1 := hd 5 (by decide) (by kernel_rfl) 88 (by kernel_rfl); replace y1 : x 88 = v2 := y1; have hF2 := hF; obtain ⟨xn, ln, hT1, hBB, gg, cc, rfl⟩ := hF2; have hc := hBB.nd.cell 3; have hf := hBB.nd.frozen 3; have hl := hBB.lt; simp at hc
       have HF := Z_ hF; clear hd hm hb hF hBB hT1; go_simp; exact hK'.out _ _ undef (by simp only [y0, y1]; rfl) trivial (push_store HF.out)
     case finb =>
      intro x vs w9 hl hF hk; obtain ⟨v0, v1, v2, v3, rfl⟩ : ∃ v0 v1 v2 v3, vs = [v0, v1, v2, v3] := by match vs, hl with | [v0, v1, v2, v3], _ => exact ⟨_, _, _, _, rfl⟩
      obtain ⟨xnb, lnb, hT1, hB9⟩ := hF; clear hk hl; replace HT := Z_ (Out.bind_got HT.out hT1.out); replace HB := Z_ hB9; replace HAT := Z_ HB.out.at; clear hT1 hB9; obtain ⟨ra, rn, rc, hrow⟩ := HB.out.slice3
      first | subst hrow | clear hrow
      have c0 := HB.out.nd.cell 0; have c1 := HB.out.nd.cell 1; have c2 := HB.out.nd.cell 2; have c3 := HB.out.nd.cell 3; have r0 := HB.out.res.cell; have rf := HB.out.res.frozen; have rl := HB.out.res.lt; unfold zeroNd at r0; simp at c0 c1 c2 c3
      go_wp2_with fail
      refine ends_at rfl rfl rfl ((((HB.out.res.set 0 _).set 1 _).set 2 _).set 3 _) Tryz.underlying24 rfl (by kernel_rfl) ?_
      exact HB.out.ret (by decide) (HT.out.symm) _ _ _ _
   | true =>
    have HLT31 := Z_ (HLE.out rfl); replace hP : PrAt W u4 S E l.tail := by simpa using hP
    have HT0 := HT.out; clear HT; simp only [↓reduceIte] at HT0; have HT := Z_ HT0; clear HT0; replace HB := Z_ (HB.out.call hC hP (by have := HLE.out rfl; omega)); replace HAT := Z_ HB.out.at; clear hC hP HH HLE; have HAT0 := HB.out.lt; obtain ⟨B, hB⟩ : ∃ B, u4.heap.size = B := ⟨_, rfl⟩; rw [hB] at HAT0; have HN := Z_ (ih n (Nat.le_refl _) (.asked) _ _ HAT.out.pr HM.out rfl trivial (Out.bind_ne HT.out HNE.out)); go_wp2_with fail
    refine HN.out.mono ?_
    rintro e u32 hr; obtain ⟨hC, ⟨lb, hp, rfl⟩ | ⟨x32, l32, v32, hp, rfl, hv, hP⟩⟩ := hr.cases (Out.bind_ne HT.out HNE.out)
    ·have HF := Z_ (Out.bind_bad HT.out hp)
     have HC := Z_ (HAT.out.chg.then hC); clear hr hp hC; go_wp2_with fail
     exact ⟨rfl, Pst.fails HC.out HF.out⟩
    replace HT := Z_ (Out.bind_got HT.out hp); have HLT32 := Z_ ((show _ from synm.prs_lt _ _ _ _ _ hp)); replace HB := Z_ (HB.out.call hC hP (by have := synm.prs_lt _ _ _ _ _ hp; omega)); replace HAT := Z_ HB.out.at; obtain ⟨ka32, ta32, ma32, aa32, na32, ca32, rfl⟩ := nd_form hv; have HV32 := Z_ hv; have hsz32 : u4.heap.size ≤ u32.heap.size := hC.size; clear hr hp hC hP hv HN; rw [hB] at HV32 hsz32; have HG := Z_ (grow_one HV32.out (by omega : N + 1 ≤ B) hsz32 (c := #[.int .i64 ka32, .string ta32, .int .i64 ma32, .slice aa32 na32 ca32]) rfl); have hEx := (Chg.refl (fun _ => False) u32).alloc (.cells #[.int .i64 ka32, .string ta32, .int .i64 ma32, .slice aa32 na32 ca32] 24); replace HB := Z_ (HB.out.extend hEx); replace HAT := Z_ HB.out.at; clear hEx; go_wp2_with fail
    refine (node_any _ _ _ _ _ _ _).mono ?_
    rintro e u33 ⟨rfl, hE⟩; replace HB := Z_ (HB.out.extend hE); replace HAT := Z_ HB.out.at; replace HG := Z_ (HG.out.chg vnd_keeps hE (fun _ h => h.elim)); have n0 := HB.out.nd.cell; have nf := HB.out.nd.frozen; have nl := HB.out.nd.lt; go_upto_region 14 with (fail)
    replace HB := Z_ (HB.out.put (kind := 10) (text := ⟨#[]⟩) (num := 0) HG.out (by simp only [List.length_singleton]; have := HLEN.out; have := HLT31.out; have := HLT32.out; omega)); replace HAT := Z_ HB.out.at; clear n0 nf nl hE HG; generalize (((u33.setCell ⟨N, 0, none⟩ (.int .i64 10)).setCell ⟨N, 1, none⟩ (.string ⟨#[]⟩)).setCell ⟨N, 2, none⟩ (.int .i64 0)).setCell ⟨N, 3, none⟩ (.slice (some ⟨u32.heap.size, 0, none⟩) 1 1) = v33 at *; go_upto_region 14 with (fail)
    refine wp_region_weave [3, 4, 5, 7] (fun i v _ => v = ([.pointer (some ⟨N, 3, none⟩), (.slice (some ⟨u32.heap.size, 0, none⟩) 1 1), .pointer (some ⟨S, 0, none⟩), undef, undef, undef, .pointer (some ⟨N, 3, none⟩), undef] : List Value).getD i undef) (PushF W w S E A N l32 10 ⟨#[]⟩ 0 (.slice (some ⟨u32.heap.size, 0, none⟩) 1 1) [x32] (prs n .block l32)) (fun _ _ => True) (frame := ?frac) (fun x => ?hfac) mixed (by kernel_rfl) (by kernel_rfl) (fun _ _ _ _ h _ => h) ?h0c ?stc ?finc
    case hfac =>
     simp only [chain.frameOf, chain.fill, chain.setOpt, chain.dstOf, List.size_toArray, List.length_cons, List.length_nil, List.getElem?_toArray, List.getElem?_cons_succ, List.getElem?_cons_zero, List.setIfInBounds_toArray, List.set_cons_succ, List.set_cons_zero]; exact rfl
    case h0c => exact HB.out.extend (Chg.refl _ _).drew
    case stc =>
     refine AllFrom.cons (fun x vs u hF hm hb hd K' hK' => ?sc0) (AllFrom.cons (fun x vs u hF hm hb hd K' hK' => ?sc1) (AllFrom.cons (fun x vs u hF hm hb hd K' hK' => ?sc2) (AllFrom.cons (fun x vs u hF hm hb hd K' hK' => ?sc3) (AllFrom.cons (fun x vs u hF hm hb hd K' hK' => ?sc4) (AllFrom.cons (fun x vs u hF hm hb hd K' hK' => ?sc5) (AllFrom.cons (fun x vs u hF hm hb hd K' hK' => ?sc6) (AllFrom.cons (fun x vs u hF hm hb hd K' hK' => ?sc7) (AllFrom.nil))))))))
     case sc0 =>
      have HF := Z_ hF; clear hd hm hb hF; go_simp; exact hK'.out _ _ _ rfl trivial ⟨rfl, HF.out⟩
     case sc1 =>
      have y0 := hd 0 (by decide) (by kernel_rfl); replace y0 : x 59 = .pointer (some ⟨N, 3, none⟩) := y0; have hc := hF.cell (by have := hb 2 _ (by decide) rfl (by kernel_rfl); omega); have HF := Z_ hF; clear hd hm hb hF; go_simp; exact hK'.out _ _ _ (by simp only [y0]; rfl) trivial ⟨rfl, HF.out⟩
     case sc2 =>
      have HF := Z_ hF; clear hd hm hb hF; go_simp; exact hK'.out _ _ _ rfl trivial ⟨rfl, HF.out⟩
     case sc6 =>
      have HF := Z_ hF; clear hd hm hb hF; go_simp; exact hK'.out _ _ _ rfl trivial ⟨rfl, HF.out⟩
     case sc3 =>
      have y0 := hd 2 (by decide) (by kernel_rfl); replace y0 : x 61 = .pointer (some ⟨S, 0, none⟩) := y0; obtain rfl := List.eq_nil_of_length_eq_zero (hm 0 (by kernel_rfl)); have HF := Z_ (show Bld _ _ _ _ _ _ _ _ _ _ _ _ _ _ from hF); clear hd hm hb hF; have HCA := Z_ (ih n (Nat.le_refl _) .block _ _ HF.out.pr HM.out rfl trivial (Out.bind_ne HT.out HNE.out)); go_simp; refine HCA.out.mono ?_
      rintro e u2 hr; obtain ⟨hC, ⟨lb, hp, rfl⟩ | ⟨xn, ln, v, hp, rfl, hv, hP⟩⟩ := hr.cases (Out.bind_ne HT.out HNE.out)
      ·have HE := Z_ (Out.bind_bad HT.out hp)
       have HC := Z_ (HF.out.chg.then hC); clear hr hp hC hK' HCA; go_wp2_with fail
       exact ⟨rfl, Pst.fails HC.out HE.out⟩
      ·exact hK'.out _ _ _ (by simp only [y0]; rfl) trivial (push_call HF.out hC hp hv hP (synm.prs_lt _ _ _ _ _ hp))
     case sc4 =>
      obtain ⟨v0, rfl⟩ : ∃ v0, vs = [v0] := by match vs, hm 1 (by kernel_rfl) with | [v0], _ => exact ⟨_, rfl⟩
      have y0 := hd 3 (by decide) (by kernel_rfl) 62 (by kernel_rfl); replace y0 : x 62 = v0 := y0; have hcl : ∃ a b c d, v0 = .agg #[a, b, c, d] := by obtain ⟨xn, ln, _, _, _, hx⟩ := hF; obtain ⟨a, b, c, d, h, _⟩ := nd_cells hx; exact ⟨a, b, c, d, h⟩
      obtain ⟨a0, b0, c0, d0, rfl⟩ := hcl; have HF := Z_ hF; clear hd hm hb hF; go_simp; exact hK'.out _ _ _ (by simp only [y0]; rfl) trivial (push_slice HF.out rfl)
     case sc5 =>
      obtain ⟨v0, v1, rfl⟩ : ∃ v0 v1, vs = [v0, v1] := by match vs, hm 2 (by kernel_rfl) with | [v0, v1], _ => exact ⟨_, _, rfl⟩
      have y0 := hd 1 (by decide) (by kernel_rfl); replace y0 : x 60 = (.slice (some ⟨u32.heap.size, 0, none⟩) 1 1) := y0; have y1 := hd 4 (by decide) (by kernel_rfl) 63 (by kernel_rfl); replace y1 : x 63 = v1 := y1; have hF2 := hF; obtain ⟨xn, ln, hT1, hBB, hfew, hx, gg, rfl, hgb, hgr⟩ := hF2; obtain ⟨us, hu1, ho, hu3⟩ := hBB.grow.ex; have hlt := hBB.lt; obtain ⟨i0_, hi_, hz0, hz1, hz2⟩ := info_split info_node; refine wp_append_lies _ _ _ 22 rfl (N + 1) 24 i0_ (.agg #[.int .i64 0, .string ⟨#[]⟩, .int .i64 0, .slice none 0 0]) 4 56 Tryz.underlying22 hi_ hz0 hz1 hz2 rfl (by decide) (.slice (some ⟨u32.heap.size, 0, none⟩) 1 1) [x32].length (us.flatMap fun u => u.cells.toList) y0 ho ⟨gg, 0, none⟩ 1 1 v0.cells.toList y1 (by rw [Array.length_toList, nd_size hx]) ?_ (by obtain ⟨a, b, c, d, e, e2, p1, p2, p3, p4⟩ := nd_cells hx; rw [e2]; intro q hq; simp at hq; rcases hq with rfl | rfl | rfl | rfl <;> assumption) (by decide) (by unfold maxLen; omega) (by omega) (by omega) u.heap.size rfl ?_
      ·intro j q hj; have e : (⟨gg, 0, none⟩ : Addr).add j = ⟨gg, j, none⟩ := (by unfold Addr.add; split <;> simp_all); rw [e, hgb.cell]; simpa using hj
      ·intro g9 c9 w9 ho9 hg9 ha9 hl9
       exact hK'.out _ _ _ rfl trivial (push_append hF hu1 hu3 ho9 hg9 ha9)
     case sc7 =>
      obtain ⟨v0, v1, v2, rfl⟩ : ∃ v0 v1 v2, vs = [v0, v1, v2] := by match vs, hm 3 (by kernel_rfl) with | [v0, v1, v2], _ => exact ⟨_, _, _, rfl⟩
      have y0 := hd 6 (by decide) (by kernel_rfl); replace y0 : x 65 = .pointer (some ⟨N, 3, none⟩) := y0; have y1 := hd 5 (by decide) (by kernel_rfl) 64 (by kernel_rfl); replace y1 : x 64 = v2 := y1; have hF2 := hF; obtain ⟨xn, ln, hT1, hBB, gg, cc, rfl⟩ := hF2; have hc := hBB.nd.cell 3; have hf := hBB.nd.frozen 3; have hl := hBB.lt; simp at hc
      have HF := Z_ hF; clear hd hm hb hF hBB hT1; go_simp; exact hK'.out _ _ undef (by simp only [y0, y1]; rfl) trivial (push_store HF.out)
    case finc =>
     intro x vs w9 hl hF hk; obtain ⟨v0, v1, v2, v3, rfl⟩ : ∃ v0 v1 v2 v3, vs = [v0, v1, v2, v3] := by match vs, hl with | [v0, v1, v2, v3], _ => exact ⟨_, _, _, _, rfl⟩
     obtain ⟨xnc, lnc, hT1, hB9⟩ := hF; clear hk hl; replace HT := Z_ (Out.bind_got HT.out hT1.out); replace HB := Z_ hB9; replace HAT := Z_ HB.out.at; clear hT1 hB9; have HH := Z_ (have_any HAT.out.pr sElse); have HLE := Z_ (fun (h : isB lnc [sElse] = true) => synm.tail_lt h); generalize isB lnc [sElse] = R at *; go_wp2_with fail
     refine HH.out.mono ?_
     rintro e u34 ⟨rfl, hC, hP⟩; cases R with
     | false =>
      replace hP : PrAt W u34 S E lnc := by simpa using hP
      have HT0 := HT.out; clear HT; simp only [Bool.false_eq_true, ↓reduceIte] at HT0; have HT := Z_ HT0; clear HT0; replace HB := Z_ (HB.out.call hC hP (Nat.le_refl _)); replace HAT := Z_ HB.out.at; clear hC hP HH HLE; obtain ⟨ra, rn, rc, hrow⟩ := HB.out.slice3
      first | subst hrow | clear hrow
      have c0 := HB.out.nd.cell 0; have c1 := HB.out.nd.cell 1; have c2 := HB.out.nd.cell 2; have c3 := HB.out.nd.cell 3; have r0 := HB.out.res.cell; have rf := HB.out.res.frozen; have rl := HB.out.res.lt; unfold zeroNd at r0; simp at c0 c1 c2 c3
      go_wp2_with fail
      refine ends_at rfl rfl rfl ((((HB.out.res.set 0 _).set 1 _).set 2 _).set 3 _) Tryz.underlying24 rfl (by kernel_rfl) ?_
      exact HB.out.ret (by decide) (HT.out.symm) _ _ _ _
     | true =>
      have HLT35 := Z_ (HLE.out rfl); replace hP : PrAt W u34 S E lnc.tail := by simpa using hP
      have HT0 := HT.out; clear HT; simp only [↓reduceIte] at HT0; have HT := Z_ HT0; clear HT0; replace HB := Z_ (HB.out.call hC hP (by have := HLE.out rfl; omega)); replace HAT := Z_ HB.out.at; clear hC hP HH HLE; go_upto_region 16 with (fail)
      refine wp_region_weave [3, 4, 5, 7] (fun i v _ => v = ([.pointer (some ⟨N, 3, none⟩), v2, .pointer (some ⟨S, 0, none⟩), undef, undef, undef, .pointer (some ⟨N, 3, none⟩), undef] : List Value).getD i undef) (PushF W w S E A N lnc.tail 10 ⟨#[]⟩ 0 v2 ([x32] ++ [xnc]) (prs n .block lnc.tail)) (fun _ _ => True) (frame := ?frad) (fun x => ?hfad) mixed (by kernel_rfl) (by kernel_rfl) (fun _ _ _ _ h _ => h) ?h0d ?std ?find
      case hfad =>
       simp only [chain.frameOf, chain.fill, chain.setOpt, chain.dstOf, List.size_toArray, List.length_cons, List.length_nil, List.getElem?_toArray, List.getElem?_cons_succ, List.getElem?_cons_zero, List.setIfInBounds_toArray, List.set_cons_succ, List.set_cons_zero]; exact rfl
      case h0d => exact HB.out.extend (Chg.refl _ _).drew
      case std =>
       refine AllFrom.cons (fun x vs u hF hm hb hd K' hK' => ?sd0) (AllFrom.cons (fun x vs u hF hm hb hd K' hK' => ?sd1) (AllFrom.cons (fun x vs u hF hm hb hd K' hK' => ?sd2) (AllFrom.cons (fun x vs u hF hm hb hd K' hK' => ?sd3) (AllFrom.cons (fun x vs u hF hm hb hd K' hK' => ?sd4) (AllFrom.cons (fun x vs u hF hm hb hd K' hK' => ?sd5) (AllFrom.cons (fun x vs u hF hm hb hd K' hK' => ?sd6) (AllFrom.cons (fun x vs u hF hm hb hd K' hK' => ?sd7) (AllFrom.nil))))))))
       case sd0 =>
        have HF := Z_ hF; clear hd hm hb hF; go_simp; exact hK'.out _ _ _ rfl trivial ⟨rfl, HF.out⟩
       case sd1 =>
        have y0 := hd 0 (by decide) (by kernel_rfl); replace y0 : x 68 = .pointer (some ⟨N, 3, none⟩) := y0; have hc := hF.cell (by have := hb 2 _ (by decide) rfl (by kernel_rfl); omega); have HF := Z_ hF; clear hd hm hb hF; go_simp; exact hK'.out _ _ _ (by simp only [y0]; rfl) trivial ⟨rfl, HF.out⟩
       case sd2 =>
        have HF := Z_ hF; clear hd hm hb hF; go_simp; exact hK'.out _ _ _ rfl trivial ⟨rfl, HF.out⟩
       case sd6 =>
        have HF := Z_ hF; clear hd hm hb hF; go_simp; exact hK'.out _ _ _ rfl trivial ⟨rfl, HF.out⟩
       case sd3 =>
        have y0 := hd 2 (by decide) (by kernel_rfl); replace y0 : x 70 = .pointer (some ⟨S, 0, none⟩) := y0; obtain rfl := List.eq_nil_of_length_eq_zero (hm 0 (by kernel_rfl)); have HF := Z_ (show Bld _ _ _ _ _ _ _ _ _ _ _ _ _ _ from hF); clear hd hm hb hF; have HCA := Z_ (ih n (Nat.le_refl _) .block _ _ HF.out.pr HM.out rfl trivial (Out.bind_ne HT.out HNE.out)); go_simp; refine HCA.out.mono ?_
        rintro e u2 hr; obtain ⟨hC, ⟨lb, hp, rfl⟩ | ⟨xn, ln, v, hp, rfl, hv, hP⟩⟩ := hr.cases (Out.bind_ne HT.out HNE.out)
        ·have HE := Z_ (Out.bind_bad HT.out hp)
         have HC := Z_ (HF.out.chg.then hC); clear hr hp hC hK' HCA; go_wp2_with fail
         exact ⟨rfl, Pst.fails HC.out HE.out⟩
        ·exact hK'.out _ _ _ (by simp only [y0]; rfl) trivial (push_call HF.out hC hp hv hP (synm.prs_lt _ _ _ _ _ hp))
       case sd4 =>
        obtain ⟨v0, rfl⟩ : ∃ v0, vs = [v0] := by match vs, hm 1 (by kernel_rfl) with | [v0], _ => exact ⟨_, rfl⟩
        have y0 := hd 3 (by decide) (by kernel_rfl) 71 (by kernel_rfl); replace y0 : x 71 = v0 := y0; have hcl : ∃ a b c d, v0 = .agg #[a, b, c, d] := by obtain ⟨xn, ln, _, _, _, hx⟩ := hF; obtain ⟨a, b, c, d, h, _⟩ := nd_cells hx; exact ⟨a, b, c, d, h⟩
        obtain ⟨a0, b0, c0, d0, rfl⟩ := hcl; have HF := Z_ hF; clear hd hm hb hF; go_simp; exact hK'.out _ _ _ (by simp only [y0]; rfl) trivial (push_slice HF.out rfl)
       case sd5 =>
        obtain ⟨v0, v1, rfl⟩ : ∃ v0 v1, vs = [v0, v1] := by match vs, hm 2 (by kernel_rfl) with | [v0, v1], _ => exact ⟨_, _, rfl⟩
        have y0 := hd 1 (by decide) (by kernel_rfl); replace y0 : x 69 = v2 := y0; have y1 := hd 4 (by decide) (by kernel_rfl) 72 (by kernel_rfl); replace y1 : x 72 = v1 := y1; have hF2 := hF; obtain ⟨xn, ln, hT1, hBB, hfew, hx, gg, rfl, hgb, hgr⟩ := hF2; obtain ⟨us, hu1, ho, hu3⟩ := hBB.grow.ex; have hlt := hBB.lt; obtain ⟨i0_, hi_, hz0, hz1, hz2⟩ := info_split info_node; refine wp_append_lies _ _ _ 22 rfl (N + 1) 24 i0_ (.agg #[.int .i64 0, .string ⟨#[]⟩, .int .i64 0, .slice none 0 0]) 4 56 Tryz.underlying22 hi_ hz0 hz1 hz2 rfl (by decide) v2 ([x32] ++ [xnc]).length (us.flatMap fun u => u.cells.toList) y0 ho ⟨gg, 0, none⟩ 1 1 v0.cells.toList y1 (by rw [Array.length_toList, nd_size hx]) ?_ (by obtain ⟨a, b, c, d, e, e2, p1, p2, p3, p4⟩ := nd_cells hx; rw [e2]; intro q hq; simp at hq; rcases hq with rfl | rfl | rfl | rfl <;> assumption) (by decide) (by unfold maxLen; omega) (by omega) (by omega) u.heap.size rfl ?_
        ·intro j q hj; have e : (⟨gg, 0, none⟩ : Addr).add j = ⟨gg, j, none⟩ := (by unfold Addr.add; split <;> simp_all); rw [e, hgb.cell]; simpa using hj
        ·intro g9 c9 w9 ho9 hg9 ha9 hl9
         exact hK'.out _ _ _ rfl trivial (push_append hF hu1 hu3 ho9 hg9 ha9)
       case sd7 =>
        obtain ⟨v0, v1, v2, rfl⟩ : ∃ v0 v1 v2, vs = [v0, v1, v2] := by match vs, hm 3 (by kernel_rfl) with | [v0, v1, v2], _ => exact ⟨_, _, _, rfl⟩
        have y0 := hd 6 (by decide) (by kernel_rfl); replace y0 : x 74 = .pointer (some ⟨N, 3, none⟩) := y0; have y1 := hd 5 (by decide) (by kernel_rfl) 73 (by kernel_rfl); replace y1 : x 73 = v2 := y1; have hF2 := hF; obtain ⟨xn, ln, hT1, hBB, gg, cc, rfl⟩ := hF2; have hc := hBB.nd.cell 3; have hf := hBB.nd.frozen 3; have hl := hBB.lt; simp at hc
        have HF := Z_ hF; clear hd hm hb hF hBB hT1; go_simp; exact hK'.out _ _ undef (by simp only [y0, y1]; rfl) trivial (push_store HF.out)
      case find =>
       intro x vs w9 hl hF hk; obtain ⟨v0, v1, v2, v3, rfl⟩ : ∃ v0 v1 v2 v3, vs = [v0, v1, v2, v3] := by match vs, hl with | [v0, v1, v2, v3], _ => exact ⟨_, _, _, _, rfl⟩
       obtain ⟨xnd, lnd, hT1, hB9⟩ := hF; clear hk hl; replace HT := Z_ (Out.bind_got HT.out hT1.out); replace HB := Z_ hB9; replace HAT := Z_ HB.out.at; clear hT1 hB9; obtain ⟨ra, rn, rc, hrow⟩ := HB.out.slice3
       first | subst hrow | clear hrow
       have c0 := HB.out.nd.cell 0; have c1 := HB.out.nd.cell 1; have c2 := HB.out.nd.cell 2; have c3 := HB.out.nd.cell 3; have r0 := HB.out.res.cell; have rf := HB.out.res.frozen; have rl := HB.out.res.lt; unfold zeroNd at r0; simp at c0 c1 c2 c3
       go_wp2_with fail
       refine ends_at rfl rfl rfl ((((HB.out.res.set 0 _).set 1 _).set 2 _).set 3 _) Tryz.underlying24 rfl (by kernel_rfl) ?_
       exact HB.out.ret (by decide) (HT.out.symm) _ _ _ _
  | true =>
   have HLT34 := Z_ (HLE.out rfl); replace hP : PrAt W u3 S E l.tail := by simpa using hP
   have HT0 := HT.out; clear HT; simp only [↓reduceIte] at HT0; have HT := Z_ HT0; clear HT0; replace HB := Z_ (HB.out.call hC hP (by have := HLE.out rfl; omega)); replace HAT := Z_ HB.out.at; clear hC hP HH HLE; have HN := Z_ (whole_any HAT.out.pr HM.out); go_wp2_with fail
   refine HN.out.mono ?_
   rintro e u35 hr; obtain ⟨hC, ⟨lb, hp, rfl⟩ | ⟨s35, l35, v, hp, rfl, ⟨rfl, hs⟩, hP⟩⟩ := hr.cases (pWhole_ne _)
   ·have HF := Z_ (Out.bind_bad HT.out hp)
    have HC := Z_ (HAT.out.chg.then hC); clear hr hp hC; go_wp2_with fail
    exact ⟨rfl, Pst.fails HC.out HF.out⟩
   replace HT := Z_ (Out.bind_got HT.out hp); have HLT35 := Z_ (synm.whole_lt hp); replace HB := Z_ (HB.out.call hC hP (by have := synm.whole_lt hp; omega)); replace HAT := Z_ HB.out.at; have HSZ := Z_ hs; clear hr hp hC hP HN; clear hs; have HAT0 := HB.out.lt; obtain ⟨B, hB⟩ : ∃ B, u35.heap.size = B := ⟨_, rfl⟩; rw [hB] at HAT0; have HN := Z_ (ih n (Nat.le_refl _) (.call s35) _ _ HAT.out.pr HM.out rfl HSZ.out (Out.bind_ne HT.out HNE.out)); go_wp2_with fail
   refine HN.out.mono ?_
   rintro e u36 hr; obtain ⟨hC, ⟨lb, hp, rfl⟩ | ⟨x36, l36, v36, hp, rfl, hv, hP⟩⟩ := hr.cases (Out.bind_ne HT.out HNE.out)
   ·have HF := Z_ (Out.bind_bad HT.out hp)
    have HC := Z_ (HAT.out.chg.then hC); clear hr hp hC; go_wp2_with fail
    exact ⟨rfl, Pst.fails HC.out HF.out⟩
   replace HT := Z_ (Out.bind_got HT.out hp); have HLT36 := Z_ ((show _ from synm.prs_lt _ _ _ _ _ hp)); replace HB := Z_ (HB.out.call hC hP (by have := synm.prs_lt _ _ _ _ _ hp; omega)); replace HAT := Z_ HB.out.at; obtain ⟨ka36, ta36, ma36, aa36, na36, ca36, rfl⟩ := nd_form hv; have HV36 := Z_ hv; have hsz36 : u35.heap.size ≤ u36.heap.size := hC.size; clear hr hp hC hP hv HN; rw [hB] at HV36 hsz36; have HG := Z_ (grow_one HV36.out (by omega : N + 1 ≤ B) hsz36 (c := #[.int .i64 ka36, .string ta36, .int .i64 ma36, .slice aa36 na36 ca36]) rfl); have hEx := (Chg.refl (fun _ => False) u36).alloc (.cells #[.int .i64 ka36, .string ta36, .int .i64 ma36, .slice aa36 na36 ca36] 24); replace HB := Z_ (HB.out.extend hEx); replace HAT := Z_ HB.out.at; clear hEx; go_wp2_with fail
   refine (node_any _ _ _ _ _ _ _).mono ?_
   rintro e u37 ⟨rfl, hE⟩; replace HB := Z_ (HB.out.extend hE); replace HAT := Z_ HB.out.at; replace HG := Z_ (HG.out.chg vnd_keeps hE (fun _ h => h.elim)); have n0 := HB.out.nd.cell; have nf := HB.out.nd.frozen; have nl := HB.out.nd.lt; go_upto_region 30 with (fail)
   replace HB := Z_ (HB.out.put (kind := 9) (text := ⟨#[]⟩) (num := 0) HG.out (by simp only [List.length_singleton]; have := HLEN.out; have := HLT34.out; have := HLT35.out; have := HLT36.out; omega)); replace HAT := Z_ HB.out.at; clear n0 nf nl hE HG; generalize (((u37.setCell ⟨N, 0, none⟩ (.int .i64 9)).setCell ⟨N, 1, none⟩ (.string ⟨#[]⟩)).setCell ⟨N, 2, none⟩ (.int .i64 0)).setCell ⟨N, 3, none⟩ (.slice (some ⟨u36.heap.size, 0, none⟩) 1 1) = v37 at *; have HT0 := HT.out; clear HT; unfold semi at HT0; have HT := Z_ HT0; clear HT0; have HN := Z_ (need_any (HAT.out.pr.alloc (.cells #[.string sSemi] 9)) v37.heap.size 1 sSemi ((Blk.made v37 #[.string sSemi] 9).cell 0)); have hEx := (Chg.refl (fun _ => False) v37).alloc (.cells #[.string sSemi] 9); replace HB := Z_ (HB.out.extend hEx); replace HAT := Z_ HB.out.at; clear hEx; go_wp2_with fail
   refine HN.out.mono ?_
   rintro e u38 hr; obtain ⟨hC, ⟨lb, hp, rfl⟩ | ⟨_, l38, _, hp, rfl, rfl, hP⟩⟩ := hr.cases (pNeed_ne _ _)
   ·have HF := Z_ (Out.bind_bad HT.out hp)
    have HC := Z_ (HAT.out.chg.then hC); clear hr hp hC; go_wp2_with fail
    exact ⟨rfl, Pst.fails HC.out HF.out⟩
   replace HT := Z_ (Out.bind_got HT.out hp); have HLT38 := Z_ (synm.need_lt hp); replace HB := Z_ (HB.out.call hC hP (by have := synm.need_lt hp; omega)); replace HAT := Z_ HB.out.at; clear hr hp hC hP HN; obtain ⟨ra, rn, rc, hrow⟩ := HB.out.slice3
   first | subst hrow | clear hrow
   have c0 := HB.out.nd.cell 0; have c1 := HB.out.nd.cell 1; have c2 := HB.out.nd.cell 2; have c3 := HB.out.nd.cell 3; have r0 := HB.out.res.cell; have rf := HB.out.res.frozen; have rl := HB.out.res.lt; unfold zeroNd at r0; simp at c0 c1 c2 c3
   go_wp2_with fail
   refine ends_at rfl rfl rfl ((((HB.out.res.set 0 _).set 1 _).set 2 _).set 3 _) Tryz.underlying24 rfl (by kernel_rfl) ?_
   exact HB.out.ret (by decide) (HT.out.symm) _ _ _ _
 | true =>
  have HT0 := HT.out; clear HT; simp only [↓reduceIte] at HT0; have HT := Z_ HT0; clear HT0; have HN := Z_ (label_any HAT.out.pr); go_wp2_with fail
  refine HN.out.mono ?_
  rintro e u39 hr; obtain ⟨hC, ⟨lb, hp, rfl⟩ | ⟨b39, l39, v, hp, rfl, ⟨rfl, hb0, hb1⟩, hP⟩⟩ := hr.cases (pLabel_ne _)
  ·have HF := Z_ (Out.bind_bad HT.out hp)
   have HC := Z_ (HAT.out.chg.then hC); clear hr hp hC; go_wp2_with fail
   exact ⟨rfl, Pst.fails HC.out HF.out⟩
  replace HT := Z_ (Out.bind_got HT.out hp); have HLT39 := Z_ (synm.label_lt hp); replace HB := Z_ (HB.out.call hC hP (by have := synm.label_lt hp; omega)); replace HAT := Z_ HB.out.at; have HBL := Z_ (And.intro hb0 hb1); clear hr hp hC hP HN; clear hb0 hb1; have HN := Z_ (name_any HAT.out.pr HM.out); go_wp2_with fail
  refine HN.out.mono ?_
  rintro e u40 hr; obtain ⟨hC, ⟨lb, hp, rfl⟩ | ⟨s40, l40, v, hp, rfl, ⟨rfl, hs⟩, hP⟩⟩ := hr.cases (pName_ne _)
  ·have HF := Z_ (Out.bind_bad HT.out hp)
   have HC := Z_ (HAT.out.chg.then hC); clear hr hp hC; go_wp2_with fail
   exact ⟨rfl, Pst.fails HC.out HF.out⟩
  replace HT := Z_ (Out.bind_got HT.out hp); have HLT40 := Z_ (synm.name_lt hp); replace HB := Z_ (HB.out.call hC hP (by have := synm.name_lt hp; omega)); replace HAT := Z_ HB.out.at; have HSZ := Z_ hs; clear hr hp hC hP HN; clear hs; go_wp2_with fail
  refine (node_any _ _ _ _ _ _ _).mono ?_
  rintro e u41 ⟨rfl, hE⟩; replace HB := Z_ (HB.out.extend hE); replace HAT := Z_ HB.out.at; have HG := Z_ (Grow.nil 4 24 VNd (N + 1) u41); have n0 := HB.out.nd.cell; have nf := HB.out.nd.frozen; have nl := HB.out.nd.lt; go_upto_region 8 with (fail)
  replace HB := Z_ (HB.out.put (kind := 7) (text := s40) (num := b39) HG.out (by simp only [List.length_nil]; have := HLEN.out; have := HLT39.out; have := HLT40.out; omega)); replace HAT := Z_ HB.out.at; clear n0 nf nl hE HG; generalize (((u41.setCell ⟨N, 0, none⟩ (.int .i64 7)).setCell ⟨N, 1, none⟩ (.string s40)).setCell ⟨N, 2, none⟩ (.int .i64 b39)).setCell ⟨N, 3, none⟩ (.slice none 0 0) = v41 at *; have HN := Z_ (need_any (HAT.out.pr.alloc (.cells #[.string sEq] 9)) v41.heap.size 1 sEq ((Blk.made v41 #[.string sEq] 9).cell 0)); have hEx := (Chg.refl (fun _ => False) v41).alloc (.cells #[.string sEq] 9); replace HB := Z_ (HB.out.extend hEx); replace HAT := Z_ HB.out.at; clear hEx; go_wp2_with fail
  refine HN.out.mono ?_
  rintro e u42 hr; obtain ⟨hC, ⟨lb, hp, rfl⟩ | ⟨_, l42, _, hp, rfl, rfl, hP⟩⟩ := hr.cases (pNeed_ne _ _)
  ·have HF := Z_ (Out.bind_bad HT.out hp)
   have HC := Z_ (HAT.out.chg.then hC); clear hr hp hC; go_wp2_with fail
   exact ⟨rfl, Pst.fails HC.out HF.out⟩
  replace HT := Z_ (Out.bind_got HT.out hp); have HLT42 := Z_ (synm.need_lt hp); replace HB := Z_ (HB.out.call hC hP (by have := synm.need_lt hp; omega)); replace HAT := Z_ HB.out.at; clear hr hp hC hP HN; go_upto_region 9 with (fail)
  refine wp_region_weave [3, 4, 5, 7] (fun i v _ => v = ([.pointer (some ⟨N, 3, none⟩), (.slice none 0 0), .pointer (some ⟨S, 0, none⟩), undef, undef, undef, .pointer (some ⟨N, 3, none⟩), undef] : List Value).getD i undef) (PushF W w S E A N l42 7 s40 b39 (.slice none 0 0) [] (prs n .expr l42)) (fun _ _ => True) (frame := ?frae) (fun x => ?hfae) mixed (by kernel_rfl) (by kernel_rfl) (fun _ _ _ _ h _ => h) ?h0e ?ste ?fine
  case hfae =>
   simp only [chain.frameOf, chain.fill, chain.setOpt, chain.dstOf, List.size_toArray, List.length_cons, List.length_nil, List.getElem?_toArray, List.getElem?_cons_succ, List.getElem?_cons_zero, List.setIfInBounds_toArray, List.set_cons_succ, List.set_cons_zero]; exact rfl
  case h0e => exact HB.out.extend (Chg.refl _ _).drew
  case ste =>
   refine AllFrom.cons (fun x vs u hF hm hb hd K' hK' => ?se0) (AllFrom.cons (fun x vs u hF hm hb hd K' hK' => ?se1) (AllFrom.cons (fun x vs u hF hm hb hd K' hK' => ?se2) (AllFrom.cons (fun x vs u hF hm hb hd K' hK' => ?se3) (AllFrom.cons (fun x vs u hF hm hb hd K' hK' => ?se4) (AllFrom.cons (fun x vs u hF hm hb hd K' hK' => ?se5) (AllFrom.cons (fun x vs u hF hm hb hd K' hK' => ?se6) (AllFrom.cons (fun x vs u hF hm hb hd K' hK' => ?se7) (AllFrom.nil))))))))
   case se0 =>
    have HF := Z_ hF; clear hd hm hb hF; go_simp; exact hK'.out _ _ _ rfl trivial ⟨rfl, HF.out⟩
   case se1 =>
    have y0 := hd 0 (by decide) (by kernel_rfl); replace y0 : x 36 = .pointer (some ⟨N, 3, none⟩) := y0; have hc := hF.cell (by have := hb 2 _ (by decide) rfl (by kernel_rfl); omega); have HF := Z_ hF; clear hd hm hb hF; go_simp; exact hK'.out _ _ _ (by simp only [y0]; rfl) trivial ⟨rfl, HF.out⟩
   case se2 =>
    have HF := Z_ hF; clear hd hm hb hF; go_simp; exact hK'.out _ _ _ rfl trivial ⟨rfl, HF.out⟩
   case se6 =>
    have HF := Z_ hF; clear hd hm hb hF; go_simp; exact hK'.out _ _ _ rfl trivial ⟨rfl, HF.out⟩
   case se3 =>
    have y0 := hd 2 (by decide) (by kernel_rfl); replace y0 : x 38 = .pointer (some ⟨S, 0, none⟩) := y0; obtain rfl := List.eq_nil_of_length_eq_zero (hm 0 (by kernel_rfl)); have HF := Z_ (show Bld _ _ _ _ _ _ _ _ _ _ _ _ _ _ from hF); clear hd hm hb hF; have HCA := Z_ (ih n (Nat.le_refl _) .expr _ _ HF.out.pr HM.out rfl trivial (Out.bind_ne HT.out HNE.out)); go_simp; refine HCA.out.mono ?_
    rintro e u2 hr; obtain ⟨hC, ⟨lb, hp, rfl⟩ | ⟨xn, ln, v, hp, rfl, hv, hP⟩⟩ := hr.cases (Out.bind_ne HT.out HNE.out)
    ·have HE := Z_ (Out.bind_bad HT.out hp)
     have HC := Z_ (HF.out.chg.then hC); clear hr hp hC hK' HCA; go_wp2_with fail
     exact ⟨rfl, Pst.fails HC.out HE.out⟩
    ·exact hK'.out _ _ _ (by simp only [y0]; rfl) trivial (push_call HF.out hC hp hv hP (synm.prs_lt _ _ _ _ _ hp))
   case se4 =>
    obtain ⟨v0, rfl⟩ : ∃ v0, vs = [v0] := by match vs, hm 1 (by kernel_rfl) with | [v0], _ => exact ⟨_, rfl⟩
    have y0 := hd 3 (by decide) (by kernel_rfl) 39 (by kernel_rfl); replace y0 : x 39 = v0 := y0; have hcl : ∃ a b c d, v0 = .agg #[a, b, c, d] := by obtain ⟨xn, ln, _, _, _, hx⟩ := hF; obtain ⟨a, b, c, d, h, _⟩ := nd_cells hx; exact ⟨a, b, c, d, h⟩
    obtain ⟨a0, b0, c0, d0, rfl⟩ := hcl; have HF := Z_ hF; clear hd hm hb hF; go_simp; exact hK'.out _ _ _ (by simp only [y0]; rfl) trivial (push_slice HF.out rfl)
   case se5 =>
    obtain ⟨v0, v1, rfl⟩ : ∃ v0 v1, vs = [v0, v1] := by match vs, hm 2 (by kernel_rfl) with | [v0, v1], _ => exact ⟨_, _, rfl⟩
    have y0 := hd 1 (by decide) (by kernel_rfl); replace y0 : x 37 = (.slice none 0 0) := y0; have y1 := hd 4 (by decide) (by kernel_rfl) 40 (by kernel_rfl); replace y1 : x 40 = v1 := y1; have hF2 := hF; obtain ⟨xn, ln, hT1, hBB, hfew, hx, gg, rfl, hgb, hgr⟩ := hF2; obtain ⟨us, hu1, ho, hu3⟩ := hBB.grow.ex; have hlt := hBB.lt; obtain ⟨i0_, hi_, hz0, hz1, hz2⟩ := info_split info_node; refine wp_append_lies _ _ _ 22 rfl (N + 1) 24 i0_ (.agg #[.int .i64 0, .string ⟨#[]⟩, .int .i64 0, .slice none 0 0]) 4 56 Tryz.underlying22 hi_ hz0 hz1 hz2 rfl (by decide) (.slice none 0 0) [].length (us.flatMap fun u => u.cells.toList) y0 ho ⟨gg, 0, none⟩ 1 1 v0.cells.toList y1 (by rw [Array.length_toList, nd_size hx]) ?_ (by obtain ⟨a, b, c, d, e, e2, p1, p2, p3, p4⟩ := nd_cells hx; rw [e2]; intro q hq; simp at hq; rcases hq with rfl | rfl | rfl | rfl <;> assumption) (by decide) (by unfold maxLen; omega) (by omega) (by omega) u.heap.size rfl ?_
    ·intro j q hj; have e : (⟨gg, 0, none⟩ : Addr).add j = ⟨gg, j, none⟩ := (by unfold Addr.add; split <;> simp_all); rw [e, hgb.cell]; simpa using hj
    ·intro g9 c9 w9 ho9 hg9 ha9 hl9
     exact hK'.out _ _ _ rfl trivial (push_append hF hu1 hu3 ho9 hg9 ha9)
   case se7 =>
    obtain ⟨v0, v1, v2, rfl⟩ : ∃ v0 v1 v2, vs = [v0, v1, v2] := by match vs, hm 3 (by kernel_rfl) with | [v0, v1, v2], _ => exact ⟨_, _, _, rfl⟩
    have y0 := hd 6 (by decide) (by kernel_rfl); replace y0 : x 42 = .pointer (some ⟨N, 3, none⟩) := y0; have y1 := hd 5 (by decide) (by kernel_rfl) 41 (by kernel_rfl); replace y1 : x 41 = v2 := y1; have hF2 := hF; obtain ⟨xn, ln, hT1, hBB, gg, cc, rfl⟩ := hF2; have hc := hBB.nd.cell 3; have hf := hBB.nd.frozen 3; have hl := hBB.lt; simp at hc
    have HF := Z_ hF; clear hd hm hb hF hBB hT1; go_simp; exact hK'.out _ _ undef (by simp only [y0, y1]; rfl) trivial (push_store HF.out)
  case fine =>
   intro x vs w9 hl hF hk; obtain ⟨v0, v1, v2, v3, rfl⟩ : ∃ v0 v1 v2 v3, vs = [v0, v1, v2, v3] := by match vs, hl with | [v0, v1, v2, v3], _ => exact ⟨_, _, _, _, rfl⟩
   obtain ⟨xne, lne, hT1, hB9⟩ := hF; clear hk hl; replace HT := Z_ (Out.bind_got HT.out hT1.out); replace HB := Z_ hB9; replace HAT := Z_ HB.out.at; clear hT1 hB9; have HT0 := HT.out; clear HT; unfold semi at HT0; have HT := Z_ HT0; clear HT0; have HN := Z_ (need_any (HAT.out.pr.alloc (.cells #[.string sSemi] 9)) w9.heap.size 1 sSemi ((Blk.made w9 #[.string sSemi] 9).cell 0)); have hEx := (Chg.refl (fun _ => False) w9).alloc (.cells #[.string sSemi] 9); replace HB := Z_ (HB.out.extend hEx); replace HAT := Z_ HB.out.at; clear hEx; go_wp2_with fail
   refine HN.out.mono ?_
   rintro e u43 hr; obtain ⟨hC, ⟨lb, hp, rfl⟩ | ⟨_, l43, _, hp, rfl, rfl, hP⟩⟩ := hr.cases (pNeed_ne _ _)
   ·have HF := Z_ (Out.bind_bad HT.out hp)
    have HC := Z_ (HAT.out.chg.then hC); clear hr hp hC; go_wp2_with fail
    exact ⟨rfl, Pst.fails HC.out HF.out⟩
   replace HT := Z_ (Out.bind_got HT.out hp); have HLT43 := Z_ (synm.need_lt hp); replace HB := Z_ (HB.out.call hC hP (by have := synm.need_lt hp; omega)); replace HAT := Z_ HB.out.at; clear hr hp hC hP HN; obtain ⟨ra, rn, rc, hrow⟩ := HB.out.slice3
   first | subst hrow | clear hrow
   have c0 := HB.out.nd.cell 0; have c1 := HB.out.nd.cell 1; have c2 := HB.out.nd.cell 2; have c3 := HB.out.nd.cell 3; have r0 := HB.out.res.cell; have rf := HB.out.res.frozen; have rl := HB.out.res.lt; unfold zeroNd at r0; simp at c0 c1 c2 c3
   go_wp2_with fail
   refine ends_at rfl rfl rfl ((((HB.out.res.set 0 _).set 1 _).set 2 _).set 3 _) Tryz.underlying24 rfl (by kernel_rfl) ?_
   exact HB.out.ret (by have := HSZ.out; omega) (HT.out.symm) _ _ _ _
end synw
end Go.Proofs.YtpcihajmcejliacGreatDoor
