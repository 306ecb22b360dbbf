/- The walk of the program's parser: declarations. -/
import Derived.StillTactics
import Derived.Test.YtpcihajmcejliacGreatDoorSyn6
import Derived.Test.YtpcihajmcejliacGreatDoorSynD
namespace Go.Proofs.YtpcihajmcejliacGreatDoor
open Go.RowKit
namespace synw
theorem wrap_few {n : Int} (h0 : 0 ≤ n) (h1 : n ≤ 100) : IntKind.i64.wrap n = n ∧ wrap64 n = n := ⟨wrap_small n h0 (by omega), by unfold wrap64; omega⟩
theorem pNumber_ne (l : List Tk) : pNumber l ≠ .out := by
 cases l with
 | nil => intro h; cases h
 | cons t r =>
  simp only [pNumber, ne_eq]; split <;> simp
set_option maxRecDepth 100000 in
set_option maxHeartbeats 4000000 in
theorem decl_any {n : Nat} (ih : ∀ m, m ≤ n → Good m) {W w : World} {S E : Nat} {l : List Tk} (h : PrAt W w S E l) (hm : MaxVar W) (hne : prs (n + 1) (.decl) l ≠ .out) :
  Calls Tryz.prog 98 #[.pointer (some ⟨S, 0, none⟩)] w (Pst (VN w.heap.size) W w S E (prs (n + 1) (.decl) l)) := by
 obtain ⟨T, hT⟩ : ∃ T, prs (n + 1) (.decl) l = T := ⟨_, rfl⟩; rw [hT] at hne ⊢; simp only [prs] at hT; have HT := Z_ hT; have HNE := Z_ hne; have HM := Z_ hm; have HAT : Hid (At W w (w.alloc (.cells #[.int .i64 0, .string ⟨#[]⟩, .int .i64 0, .slice none 0 0] 24)) S E w.heap.size l) := Z_ (At.start h); obtain ⟨A, hA⟩ : ∃ A, w.heap.size = A := ⟨_, rfl⟩; rw [hA] at HAT; have hSA : S < A := by have := h.lt; omega
 clear h hm hne hT; go_enter Tryz.func98, Tryz.ntmps98
 go_upto_region 1 with (fail)
 generalize w.alloc (.cells #[.int .i64 0, .string ⟨#[]⟩, .int .i64 0, .slice none 0 0] 24) = u0 at *; go_upto_region 2 with (fail)
 have HH := Z_ (have_any HAT.out.pr sPub); have HLE := Z_ (fun (h : isB l [sPub] = true) => synm.tail_lt h); generalize isB l [sPub] = R at *; go_wp2_with fail
 refine HH.out.mono ?_
 rintro e u1 ⟨rfl, hC, hP⟩; cases R with
 | false =>
  replace hP : PrAt W u1 S E l := by simpa using hP
  have HT0 := HT.out; clear HT; simp only [Bool.false_eq_true, ↓reduceIte] at HT0; have HT := Z_ HT0; clear HT0; replace HAT := Z_ (HAT.out.call hC hP); clear hC hP HH HLE; have HH := Z_ (have_any HAT.out.pr sProc); have HLE := Z_ (fun (h : isB l [sProc] = true) => synm.tail_lt h); generalize isB l [sProc] = R at *; go_wp2_with fail
  refine HH.out.mono ?_
  rintro e u2 ⟨rfl, hC, hP⟩; cases R with
  | false =>
   replace hP : PrAt W u2 S E l := by simpa using hP
   have HT0 := HT.out; clear HT; simp only [Bool.false_eq_true, ↓reduceIte] at HT0; have HT := Z_ HT0; clear HT0; replace HAT := Z_ (HAT.out.call hC hP); clear hC hP HH HLE; have HN := Z_ (label_any HAT.out.pr); go_wp2_with fail
   refine HN.out.mono ?_
   rintro e u3 hr; obtain ⟨hC, ⟨lb, hp, rfl⟩ | ⟨b3, l3, v, hp, rfl, ⟨rfl, hb0, hb1⟩, hP⟩⟩ := hr.cases (pLabel_ne _)
   ·have HF := Z_ (Out.bind_bad HT.out hp)
    have HC := Z_ (HAT.out.chg.then hC); clear hr hp hC; go_wp2_with fail
    exact ⟨rfl, Pst.fails HC.out HF.out⟩
   replace HT := Z_ (Out.bind_got HT.out hp); replace HAT := Z_ (HAT.out.call hC hP); have HBL := Z_ (And.intro hb0 hb1); clear hr hp hC hP HN; clear hb0 hb1; have HT0 := HT.out; clear HT; simp only [Int.add_zero] at HT0; have HT := Z_ HT0; clear HT0; have hw7 := wrap_few (n := b3) (by have := HBL.out; omega) (by have := HBL.out; omega); obtain ⟨hw8, hw9⟩ := hw7; have HN := Z_ (name_any HAT.out.pr HM.out); go_wp2_with fail
   refine HN.out.mono ?_
   rintro e u4 hr; obtain ⟨hC, ⟨lb, hp, rfl⟩ | ⟨s4, l4, v, hp, rfl, ⟨rfl, hs⟩, hP⟩⟩ := hr.cases (pName_ne _)
   ·have HF := Z_ (Out.bind_bad HT.out hp)
    have HC := Z_ (HAT.out.chg.then hC); clear hr hp hC; go_wp2_with fail
    exact ⟨rfl, Pst.fails HC.out HF.out⟩
   replace HT := Z_ (Out.bind_got HT.out hp); replace HAT := Z_ (HAT.out.call hC hP); have HSZ := Z_ hs; clear hr hp hC hP HN; clear hs; go_wp2_with fail
   refine (node_any _ _ _ _ _ _ _).mono ?_
   rintro e u5 ⟨rfl, hE⟩; replace HAT := Z_ (HAT.out.extend hE); clear hw8 hw9; have HB := Z_ ((HAT.out.alloc (.cells #[.int .i64 (3), .string s4, .int .i64 (b3), .slice none 0 0] 24)).bld (Blk.made u5 _ _) HAT.out.lt); obtain ⟨N, hN⟩ : ∃ N, u5.heap.size = N := ⟨_, rfl⟩; rw [hN] at HB; clear hE HAT; go_upto_region 8 with (fail)
   generalize u5.alloc (.cells #[.int .i64 (3), .string s4, .int .i64 (b3), .slice none 0 0] 24) = v0 at *; have HAT := Z_ HB.out.at; have HH := Z_ (have_any HAT.out.pr sBra); have HLE := Z_ (fun (h : isB l4 [sBra] = true) => synm.tail_lt h); generalize isB l4 [sBra] = R at *; go_wp2_with fail
   refine HH.out.mono ?_
   rintro e u6 ⟨rfl, hC, hP⟩; cases R with
   | false =>
    replace hP : PrAt W u6 S E l4 := by simpa using hP
    have HT0 := HT.out; clear HT; simp only [Bool.false_eq_true, ↓reduceIte] at HT0; have HT := Z_ HT0; clear HT0; replace HB := Z_ (HB.out.call hC hP (Nat.le_refl _)); replace HAT := Z_ HB.out.at; clear hC hP HH HLE; have HT0 := HT.out; clear HT; unfold semi at HT0; have HT := Z_ HT0; clear HT0; have HN := Z_ (need_any (HAT.out.pr.alloc (.cells #[.string sSemi] 9)) u6.heap.size 1 sSemi ((Blk.made u6 #[.string sSemi] 9).cell 0)); have hEx := (Chg.refl (fun _ => False) u6).alloc (.cells #[.string sSemi] 9); replace HB := Z_ (HB.out.extend hEx); replace HAT := Z_ HB.out.at; clear hEx; go_wp2_with fail
    refine HN.out.mono ?_
    rintro e u7 hr; obtain ⟨hC, ⟨lb, hp, rfl⟩ | ⟨_, l7, _, hp, rfl, rfl, hP⟩⟩ := hr.cases (pNeed_ne _ _)
    ·have HF := Z_ (Out.bind_bad HT.out hp)
     have HC := Z_ (HAT.out.chg.then hC); clear hr hp hC; go_wp2_with fail
     exact ⟨rfl, Pst.fails HC.out HF.out⟩
    replace HT := Z_ (Out.bind_got HT.out hp); replace HB := Z_ (HB.out.call hC hP (by have := synm.need_lt hp; omega)); replace HAT := Z_ HB.out.at; clear hr hp hC hP HN; obtain ⟨ra, rn, rc, hrow⟩ := HB.out.slice3
    first | subst hrow | clear hrow
    have c0 := HB.out.nd.cell 0; have c1 := HB.out.nd.cell 1; have c2 := HB.out.nd.cell 2; have c3 := HB.out.nd.cell 3; have r0 := HB.out.res.cell; have rf := HB.out.res.frozen; have rl := HB.out.res.lt; unfold zeroNd at r0; simp at c0 c1 c2 c3
    go_wp2_with fail
    refine ends_at rfl rfl rfl ((((HB.out.res.set 0 _).set 1 _).set 2 _).set 3 _) Tryz.underlying24 rfl (by kernel_rfl) ?_
    exact HB.out.ret (by have := HSZ.out; omega) (HT.out.symm) _ _ _ _
   | true =>
    replace hP : PrAt W u6 S E l4.tail := by simpa using hP
    have HT0 := HT.out; clear HT; simp only [↓reduceIte] at HT0; have HT := Z_ HT0; clear HT0; replace HB := Z_ (HB.out.call hC hP (by have := HLE.out rfl; omega)); replace HAT := Z_ HB.out.at; clear hC hP HH HLE; go_upto_region 9 with (fail)
    refine wp_region_weave [3, 4, 5, 7] (fun i v _ => v = ([.pointer (some ⟨N, 3, none⟩), (.slice none 0 0), .pointer (some ⟨S, 0, none⟩), undef, undef, undef, .pointer (some ⟨N, 3, none⟩), undef] : List Value).getD i undef) (PushF W w S E A N l4.tail 3 s4 (b3) (.slice none 0 0) [] (pNumber l4.tail)) (fun _ _ => True) (frame := ?frab) (fun x => ?hfab) mixed (by kernel_rfl) (by kernel_rfl) (fun _ _ _ _ h _ => h) ?h0b ?stb ?finb
    case hfab =>
     simp only [chain.frameOf, chain.fill, chain.setOpt, chain.dstOf, List.size_toArray, List.length_cons, List.length_nil, List.getElem?_toArray, List.getElem?_cons_succ, List.getElem?_cons_zero, List.setIfInBounds_toArray, List.set_cons_succ, List.set_cons_zero]; exact rfl
    case h0b => exact HB.out.extend (Chg.refl _ _).drew
    case stb =>
     refine AllFrom.cons (fun x vs u hF hm hb hd K' hK' => ?sb0) (AllFrom.cons (fun x vs u hF hm hb hd K' hK' => ?sb1) (AllFrom.cons (fun x vs u hF hm hb hd K' hK' => ?sb2) (AllFrom.cons (fun x vs u hF hm hb hd K' hK' => ?sb3) (AllFrom.cons (fun x vs u hF hm hb hd K' hK' => ?sb4) (AllFrom.cons (fun x vs u hF hm hb hd K' hK' => ?sb5) (AllFrom.cons (fun x vs u hF hm hb hd K' hK' => ?sb6) (AllFrom.cons (fun x vs u hF hm hb hd K' hK' => ?sb7) (AllFrom.nil))))))))
     case sb0 =>
      have HF := Z_ hF; clear hd hm hb hF; go_simp; exact hK'.out _ _ _ rfl trivial ⟨rfl, HF.out⟩
     case sb1 =>
      have y0 := hd 0 (by decide) (by kernel_rfl); replace y0 : x 23 = .pointer (some ⟨N, 3, none⟩) := y0; have hc := hF.cell (by have := hb 2 _ (by decide) rfl (by kernel_rfl); omega); have HF := Z_ hF; clear hd hm hb hF; go_simp; exact hK'.out _ _ _ (by simp only [y0]; rfl) trivial ⟨rfl, HF.out⟩
     case sb2 =>
      have HF := Z_ hF; clear hd hm hb hF; go_simp; exact hK'.out _ _ _ rfl trivial ⟨rfl, HF.out⟩
     case sb6 =>
      have HF := Z_ hF; clear hd hm hb hF; go_simp; exact hK'.out _ _ _ rfl trivial ⟨rfl, HF.out⟩
     case sb3 =>
      have y0 := hd 2 (by decide) (by kernel_rfl); replace y0 : x 25 = .pointer (some ⟨S, 0, none⟩) := y0; obtain rfl := List.eq_nil_of_length_eq_zero (hm 0 (by kernel_rfl)); have HF := Z_ (show Bld _ _ _ _ _ _ _ _ _ _ _ _ _ _ from hF); clear hd hm hb hF; have HCA := Z_ (number_any HF.out.pr); go_simp; refine HCA.out.mono ?_
      rintro e u2 hr; obtain ⟨hC, ⟨lb, hp, rfl⟩ | ⟨xn, ln, v, hp, rfl, hv, hP⟩⟩ := hr.cases (pNumber_ne _)
      ·have HE := Z_ (Out.bind_bad HT.out hp)
       have HC := Z_ (HF.out.chg.then hC); clear hr hp hC hK' HCA; go_wp2_with fail
       exact ⟨rfl, Pst.fails HC.out HE.out⟩
      ·exact hK'.out _ _ _ (by simp only [y0]; rfl) trivial (push_call HF.out hC hp hv hP (synm.number_lt hp))
     case sb4 =>
      obtain ⟨v0, rfl⟩ : ∃ v0, vs = [v0] := by match vs, hm 1 (by kernel_rfl) with | [v0], _ => exact ⟨_, rfl⟩
      have y0 := hd 3 (by decide) (by kernel_rfl) 26 (by kernel_rfl); replace y0 : x 26 = v0 := y0; have hcl : ∃ a b c d, v0 = .agg #[a, b, c, d] := by obtain ⟨xn, ln, _, _, _, hx⟩ := hF; obtain ⟨a, b, c, d, h, _⟩ := nd_cells hx; exact ⟨a, b, c, d, h⟩
      obtain ⟨a0, b0, c0, d0, rfl⟩ := hcl; have HF := Z_ hF; clear hd hm hb hF; go_simp; exact hK'.out _ _ _ (by simp only [y0]; rfl) trivial (push_slice HF.out rfl)
     case sb5 =>
      obtain ⟨v0, v1, rfl⟩ : ∃ v0 v1, vs = [v0, v1] := by match vs, hm 2 (by kernel_rfl) with | [v0, v1], _ => exact ⟨_, _, rfl⟩
      have y0 := hd 1 (by decide) (by kernel_rfl); replace y0 : x 24 = (.slice none 0 0) := y0; have y1 := hd 4 (by decide) (by kernel_rfl) 27 (by kernel_rfl); replace y1 : x 27 = v1 := y1; have hF2 := hF; obtain ⟨xn, ln, hT1, hBB, hfew, hx, gg, rfl, hgb, hgr⟩ := hF2; obtain ⟨us, hu1, ho, hu3⟩ := hBB.grow.ex; have hlt := hBB.lt; obtain ⟨i0_, hi_, hz0, hz1, hz2⟩ := info_split info_node; refine wp_append_lies _ _ _ 22 rfl (N + 1) 24 i0_ (.agg #[.int .i64 0, .string ⟨#[]⟩, .int .i64 0, .slice none 0 0]) 4 56 Tryz.underlying22 hi_ hz0 hz1 hz2 rfl (by decide) (.slice none 0 0) [].length (us.flatMap fun u => u.cells.toList) y0 ho ⟨gg, 0, none⟩ 1 1 v0.cells.toList y1 (by rw [Array.length_toList, nd_size hx]) ?_ (by obtain ⟨a, b, c, d, e, e2, p1, p2, p3, p4⟩ := nd_cells hx; rw [e2]; intro q hq; simp at hq; rcases hq with rfl | rfl | rfl | rfl <;> assumption) (by decide) (by unfold maxLen; omega) (by omega) (by omega) u.heap.size rfl ?_
      ·intro j q hj; have e : (⟨gg, 0, none⟩ : Addr).add j = ⟨gg, j, none⟩ := (by unfold Addr.add; split <;> simp_all); rw [e, hgb.cell]; simpa using hj
      ·intro g9 c9 w9 ho9 hg9 ha9 hl9
       exact hK'.out _ _ _ rfl trivial (push_append hF hu1 hu3 ho9 hg9 ha9)
     case sb7 =>
      obtain ⟨v0, v1, v2, rfl⟩ : ∃ v0 v1 v2, vs = [v0, v1, v2] := by match vs, hm 3 (by kernel_rfl) with | [v0, v1, v2], _ => exact ⟨_, _, _, rfl⟩
      have y0 := hd 6 (by decide) (by kernel_rfl); replace y0 : x 29 = .pointer (some ⟨N, 3, none⟩) := y0; have y1 := hd 5 (by decide) (by kernel_rfl) 28 (by kernel_rfl); replace y1 : x 28 = v2 := y1; have hF2 := hF; obtain ⟨xn, ln, hT1, hBB, gg, cc, rfl⟩ := hF2; have hc := hBB.nd.cell 3; have hf := hBB.nd.frozen 3; have hl := hBB.lt; simp at hc
      have HF := Z_ hF; clear hd hm hb hF hBB hT1; go_simp; exact hK'.out _ _ undef (by simp only [y0, y1]; rfl) trivial (push_store HF.out)
    case finb =>
     intro x vs w9 hl hF hk; obtain ⟨v0, v1, v2, v3, rfl⟩ : ∃ v0 v1 v2 v3, vs = [v0, v1, v2, v3] := by match vs, hl with | [v0, v1, v2, v3], _ => exact ⟨_, _, _, _, rfl⟩
     obtain ⟨xn, ln, hT1, hB9⟩ := hF; clear hk hl; replace HT := Z_ (Out.bind_got HT.out hT1.out); replace HB := Z_ hB9; replace HAT := Z_ HB.out.at; clear hT1 hB9; have HN := Z_ (need_any (HAT.out.pr.alloc (.cells #[.string sKet] 9)) w9.heap.size 1 sKet ((Blk.made w9 #[.string sKet] 9).cell 0)); have hEx := (Chg.refl (fun _ => False) w9).alloc (.cells #[.string sKet] 9); replace HB := Z_ (HB.out.extend hEx); replace HAT := Z_ HB.out.at; clear hEx; go_wp2_with fail
     refine HN.out.mono ?_
     rintro e u9 hr; obtain ⟨hC, ⟨lb, hp, rfl⟩ | ⟨_, l9, _, hp, rfl, rfl, hP⟩⟩ := hr.cases (pNeed_ne _ _)
     ·have HF := Z_ (Out.bind_bad HT.out hp)
      have HC := Z_ (HAT.out.chg.then hC); clear hr hp hC; go_wp2_with fail
      exact ⟨rfl, Pst.fails HC.out HF.out⟩
     replace HT := Z_ (Out.bind_got HT.out hp); replace HB := Z_ (HB.out.call hC hP (by have := synm.need_lt hp; omega)); replace HAT := Z_ HB.out.at; clear hr hp hC hP HN; have HT0 := HT.out; clear HT; unfold semi at HT0; have HT := Z_ HT0; clear HT0; have HN := Z_ (need_any (HAT.out.pr.alloc (.cells #[.string sSemi] 9)) u9.heap.size 1 sSemi ((Blk.made u9 #[.string sSemi] 9).cell 0)); have hEx := (Chg.refl (fun _ => False) u9).alloc (.cells #[.string sSemi] 9); replace HB := Z_ (HB.out.extend hEx); replace HAT := Z_ HB.out.at; clear hEx; go_wp2_with fail
     refine HN.out.mono ?_
     rintro e u10 hr; obtain ⟨hC, ⟨lb, hp, rfl⟩ | ⟨_, l10, _, hp, rfl, rfl, hP⟩⟩ := hr.cases (pNeed_ne _ _)
     ·have HF := Z_ (Out.bind_bad HT.out hp)
      have HC := Z_ (HAT.out.chg.then hC); clear hr hp hC; go_wp2_with fail
      exact ⟨rfl, Pst.fails HC.out HF.out⟩
     replace HT := Z_ (Out.bind_got HT.out hp); replace HB := Z_ (HB.out.call hC hP (by have := synm.need_lt hp; omega)); replace HAT := Z_ HB.out.at; clear hr hp hC hP HN; obtain ⟨ra, rn, rc, hrow⟩ := HB.out.slice3
     first | subst hrow | clear hrow
     have c0 := HB.out.nd.cell 0; have c1 := HB.out.nd.cell 1; have c2 := HB.out.nd.cell 2; have c3 := HB.out.nd.cell 3; have r0 := HB.out.res.cell; have rf := HB.out.res.frozen; have rl := HB.out.res.lt; unfold zeroNd at r0; simp at c0 c1 c2 c3
     go_wp2_with fail
     refine ends_at rfl rfl rfl ((((HB.out.res.set 0 _).set 1 _).set 2 _).set 3 _) Tryz.underlying24 rfl (by kernel_rfl) ?_
     exact HB.out.ret (by have := HSZ.out; omega) (HT.out.symm) _ _ _ _
  | true =>
   replace hP : PrAt W u2 S E l.tail := by simpa using hP
   have HT0 := HT.out; clear HT; simp only [↓reduceIte] at HT0; have HT := Z_ HT0; clear HT0; replace HAT := Z_ (HAT.out.call hC hP); clear hC hP HH HLE; have HAT0 := HAT.out.lt; obtain ⟨B, hB⟩ : ∃ B, u2.heap.size = B := ⟨_, rfl⟩; rw [hB] at HAT0; have HN := Z_ (ih n (Nat.le_refl _) (.proc 0) _ _ HAT.out.pr HM.out rfl (by decide : (0 : Int) ≤ 0 ∧ (0 : Int) ≤ 2) (by rw [HT.out]; exact HNE.out)); go_wp2_with fail
   refine HN.out.mono ?_
   rintro e u10 hr; obtain ⟨hC, ⟨lb, hp, rfl⟩ | ⟨x10, l10, v10, hp, rfl, hv, hP⟩⟩ := hr.cases (by rw [HT.out]; exact HNE.out)
   ·have HF := Z_ (HT.out.symm.trans hp)
    have HC := Z_ (HAT.out.chg.then hC); clear hr hp hC; go_wp2_with fail
    exact ⟨rfl, Pst.fails HC.out HF.out⟩
   replace HT := Z_ (HT.out.symm.trans hp); replace HAT := Z_ (HAT.out.call hC hP); obtain ⟨ka10, ta10, ma10, aa10, na10, ca10, rfl⟩ := nd_form hv; have HV10 := Z_ hv; have hsz10 : u2.heap.size ≤ u10.heap.size := hC.size; clear hr hp hC hP hv HN; rw [hB] at HV10; have r0 := HAT.out.res.cell; have rf := HAT.out.res.frozen; have rl := HAT.out.res.lt; unfold zeroNd at r0; go_wp2_with fail
   refine ends_at rfl rfl rfl ((((HAT.out.res.set 0 _).set 1 _).set 2 _).set 3 _) Tryz.underlying24 rfl (by kernel_rfl) ?_
   exact ret_value HAT.out (below B) (HV10.out) (below_yes (by omega)) (fun i hi => below_yes (by omega)) (HT.out)
 | true =>
  replace hP : PrAt W u1 S E l.tail := by simpa using hP
  have HT0 := HT.out; clear HT; simp only [↓reduceIte] at HT0; have HT := Z_ HT0; clear HT0; replace HAT := Z_ (HAT.out.call hC hP); clear hC hP HH HLE; have HH := Z_ (have_any HAT.out.pr sProc); have HLE := Z_ (fun (h : isB l.tail [sProc] = true) => synm.tail_lt h); generalize isB l.tail [sProc] = R at *; go_wp2_with fail
  refine HH.out.mono ?_
  rintro e u12 ⟨rfl, hC, hP⟩; cases R with
  | false =>
   replace hP : PrAt W u12 S E l.tail := by simpa using hP
   have HT0 := HT.out; clear HT; simp only [Bool.false_eq_true, ↓reduceIte] at HT0; have HT := Z_ HT0; clear HT0; replace HAT := Z_ (HAT.out.call hC hP); clear hC hP HH HLE; have HN := Z_ (label_any HAT.out.pr); go_wp2_with fail
   refine HN.out.mono ?_
   rintro e u13 hr; obtain ⟨hC, ⟨lb, hp, rfl⟩ | ⟨b13, l13, v, hp, rfl, ⟨rfl, hb0, hb1⟩, hP⟩⟩ := hr.cases (pLabel_ne _)
   ·have HF := Z_ (Out.bind_bad HT.out hp)
    have HC := Z_ (HAT.out.chg.then hC); clear hr hp hC; go_wp2_with fail
    exact ⟨rfl, Pst.fails HC.out HF.out⟩
   replace HT := Z_ (Out.bind_got HT.out hp); replace HAT := Z_ (HAT.out.call hC hP); have HBL := Z_ (And.intro hb0 hb1); clear hr hp hC hP HN; clear hb0 hb1; have hw7 := wrap_few (n := b13 + 2) (by have := HBL.out; omega) (by have := HBL.out; omega); obtain ⟨hw8, hw9⟩ := hw7; have HN := Z_ (name_any HAT.out.pr HM.out); go_wp2_with fail
   refine HN.out.mono ?_
   rintro e u14 hr; obtain ⟨hC, ⟨lb, hp, rfl⟩ | ⟨s14, l14, v, hp, rfl, ⟨rfl, hs⟩, hP⟩⟩ := hr.cases (pName_ne _)
   ·have HF := Z_ (Out.bind_bad HT.out hp)
    have HC := Z_ (HAT.out.chg.then hC); clear hr hp hC; go_wp2_with fail
    exact ⟨rfl, Pst.fails HC.out HF.out⟩
   replace HT := Z_ (Out.bind_got HT.out hp); replace HAT := Z_ (HAT.out.call hC hP); have HSZ := Z_ hs; clear hr hp hC hP HN; clear hs; go_wp2_with fail
   refine (node_any _ _ _ _ _ _ _).mono ?_
   rintro e u15 ⟨rfl, hE⟩; replace HAT := Z_ (HAT.out.extend hE); clear hw8 hw9; have HB := Z_ ((HAT.out.alloc (.cells #[.int .i64 (3), .string s14, .int .i64 (b13 + 2), .slice none 0 0] 24)).bld (Blk.made u15 _ _) HAT.out.lt); obtain ⟨N, hN⟩ : ∃ N, u15.heap.size = N := ⟨_, rfl⟩; rw [hN] at HB; clear hE HAT; go_upto_region 8 with (fail)
   generalize u15.alloc (.cells #[.int .i64 (3), .string s14, .int .i64 (b13 + 2), .slice none 0 0] 24) = v0 at *; have HAT := Z_ HB.out.at; have HH := Z_ (have_any HAT.out.pr sBra); have HLE := Z_ (fun (h : isB l14 [sBra] = true) => synm.tail_lt h); generalize isB l14 [sBra] = R at *; go_wp2_with fail
   refine HH.out.mono ?_
   rintro e u16 ⟨rfl, hC, hP⟩; cases R with
   | false =>
    replace hP : PrAt W u16 S E l14 := by simpa using hP
    have HT0 := HT.out; clear HT; simp only [Bool.false_eq_true, ↓reduceIte] at HT0; have HT := Z_ HT0; clear HT0; replace HB := Z_ (HB.out.call hC hP (Nat.le_refl _)); replace HAT := Z_ HB.out.at; clear hC hP HH HLE; have HT0 := HT.out; clear HT; unfold semi at HT0; have HT := Z_ HT0; clear HT0; have HN := Z_ (need_any (HAT.out.pr.alloc (.cells #[.string sSemi] 9)) u16.heap.size 1 sSemi ((Blk.made u16 #[.string sSemi] 9).cell 0)); have hEx := (Chg.refl (fun _ => False) u16).alloc (.cells #[.string sSemi] 9); replace HB := Z_ (HB.out.extend hEx); replace HAT := Z_ HB.out.at; clear hEx; go_wp2_with fail
    refine HN.out.mono ?_
    rintro e u17 hr; obtain ⟨hC, ⟨lb, hp, rfl⟩ | ⟨_, l17, _, hp, rfl, rfl, hP⟩⟩ := hr.cases (pNeed_ne _ _)
    ·have HF := Z_ (Out.bind_bad HT.out hp)
     have HC := Z_ (HAT.out.chg.then hC); clear hr hp hC; go_wp2_with fail
     exact ⟨rfl, Pst.fails HC.out HF.out⟩
    replace HT := Z_ (Out.bind_got HT.out hp); replace HB := Z_ (HB.out.call hC hP (by have := synm.need_lt hp; omega)); replace HAT := Z_ HB.out.at; clear hr hp hC hP HN; obtain ⟨ra, rn, rc, hrow⟩ := HB.out.slice3
    first | subst hrow | clear hrow
    have c0 := HB.out.nd.cell 0; have c1 := HB.out.nd.cell 1; have c2 := HB.out.nd.cell 2; have c3 := HB.out.nd.cell 3; have r0 := HB.out.res.cell; have rf := HB.out.res.frozen; have rl := HB.out.res.lt; unfold zeroNd at r0; simp at c0 c1 c2 c3
    go_wp2_with fail
    refine ends_at rfl rfl rfl ((((HB.out.res.set 0 _).set 1 _).set 2 _).set 3 _) Tryz.underlying24 rfl (by kernel_rfl) ?_
    exact HB.out.ret (by have := HSZ.out; omega) (HT.out.symm) _ _ _ _
   | true =>
    replace hP : PrAt W u16 S E l14.tail := by simpa using hP
    have HT0 := HT.out; clear HT; simp only [↓reduceIte] at HT0; have HT := Z_ HT0; clear HT0; replace HB := Z_ (HB.out.call hC hP (by have := HLE.out rfl; omega)); replace HAT := Z_ HB.out.at; clear hC hP HH HLE; go_upto_region 9 with (fail)
    refine wp_region_weave [3, 4, 5, 7] (fun i v _ => v = ([.pointer (some ⟨N, 3, none⟩), (.slice none 0 0), .pointer (some ⟨S, 0, none⟩), undef, undef, undef, .pointer (some ⟨N, 3, none⟩), undef] : List Value).getD i undef) (PushF W w S E A N l14.tail 3 s14 (b13 + 2) (.slice none 0 0) [] (pNumber l14.tail)) (fun _ _ => True) (frame := ?fraa) (fun x => ?hfaa) mixed (by kernel_rfl) (by kernel_rfl) (fun _ _ _ _ h _ => h) ?h0a ?sta ?fina
    case hfaa =>
     simp only [chain.frameOf, chain.fill, chain.setOpt, chain.dstOf, List.size_toArray, List.length_cons, List.length_nil, List.getElem?_toArray, List.getElem?_cons_succ, List.getElem?_cons_zero, List.setIfInBounds_toArray, List.set_cons_succ, List.set_cons_zero]; exact rfl
    case h0a => exact HB.out.extend (Chg.refl _ _).drew
    case sta =>
     refine AllFrom.cons (fun x vs u hF hm hb hd K' hK' => ?sa0) (AllFrom.cons (fun x vs u hF hm hb hd K' hK' => ?sa1) (AllFrom.cons (fun x vs u hF hm hb hd K' hK' => ?sa2) (AllFrom.cons (fun x vs u hF hm hb hd K' hK' => ?sa3) (AllFrom.cons (fun x vs u hF hm hb hd K' hK' => ?sa4) (AllFrom.cons (fun x vs u hF hm hb hd K' hK' => ?sa5) (AllFrom.cons (fun x vs u hF hm hb hd K' hK' => ?sa6) (AllFrom.cons (fun x vs u hF hm hb hd K' hK' => ?sa7) (AllFrom.nil))))))))
     case sa0 =>
      have HF := Z_ hF; clear hd hm hb hF; go_simp; exact hK'.out _ _ _ rfl trivial ⟨rfl, HF.out⟩
     case sa1 =>
      have y0 := hd 0 (by decide) (by kernel_rfl); replace y0 : x 23 = .pointer (some ⟨N, 3, none⟩) := y0; have hc := hF.cell (by have := hb 2 _ (by decide) rfl (by kernel_rfl); omega); have HF := Z_ hF; clear hd hm hb hF; go_simp; exact hK'.out _ _ _ (by simp only [y0]; rfl) trivial ⟨rfl, HF.out⟩
     case sa2 =>
      have HF := Z_ hF; clear hd hm hb hF; go_simp; exact hK'.out _ _ _ rfl trivial ⟨rfl, HF.out⟩
     case sa6 =>
      have HF := Z_ hF; clear hd hm hb hF; go_simp; exact hK'.out _ _ _ rfl trivial ⟨rfl, HF.out⟩
     case sa3 =>
      have y0 := hd 2 (by decide) (by kernel_rfl); replace y0 : x 25 = .pointer (some ⟨S, 0, none⟩) := y0; obtain rfl := List.eq_nil_of_length_eq_zero (hm 0 (by kernel_rfl)); have HF := Z_ (show Bld _ _ _ _ _ _ _ _ _ _ _ _ _ _ from hF); clear hd hm hb hF; have HCA := Z_ (number_any HF.out.pr); go_simp; refine HCA.out.mono ?_
      rintro e u2 hr; obtain ⟨hC, ⟨lb, hp, rfl⟩ | ⟨xn, ln, v, hp, rfl, hv, hP⟩⟩ := hr.cases (pNumber_ne _)
      ·have HE := Z_ (Out.bind_bad HT.out hp)
       have HC := Z_ (HF.out.chg.then hC); clear hr hp hC hK' HCA; go_wp2_with fail
       exact ⟨rfl, Pst.fails HC.out HE.out⟩
      ·exact hK'.out _ _ _ (by simp only [y0]; rfl) trivial (push_call HF.out hC hp hv hP (synm.number_lt hp))
     case sa4 =>
      obtain ⟨v0, rfl⟩ : ∃ v0, vs = [v0] := by match vs, hm 1 (by kernel_rfl) with | [v0], _ => exact ⟨_, rfl⟩
      have y0 := hd 3 (by decide) (by kernel_rfl) 26 (by kernel_rfl); replace y0 : x 26 = v0 := y0; have hcl : ∃ a b c d, v0 = .agg #[a, b, c, d] := by obtain ⟨xn, ln, _, _, _, hx⟩ := hF; obtain ⟨a, b, c, d, h, _⟩ := nd_cells hx; exact ⟨a, b, c, d, h⟩
      obtain ⟨a0, b0, c0, d0, rfl⟩ := hcl; have HF := Z_ hF; clear hd hm hb hF; go_simp; exact hK'.out _ _ _ (by simp only [y0]; rfl) trivial (push_slice HF.out rfl)
     case sa5 =>
      obtain ⟨v0, v1, rfl⟩ : ∃ v0 v1, vs = [v0, v1] := by match vs, hm 2 (by kernel_rfl) with | [v0, v1], _ => exact ⟨_, _, rfl⟩
      have y0 := hd 1 (by decide) (by kernel_rfl); replace y0 : x 24 = (.slice none 0 0) := y0; have y1 := hd 4 (by decide) (by kernel_rfl) 27 (by kernel_rfl); replace y1 : x 27 = v1 := y1; have hF2 := hF; obtain ⟨xn, ln, hT1, hBB, hfew, hx, gg, rfl, hgb, hgr⟩ := hF2; obtain ⟨us, hu1, ho, hu3⟩ := hBB.grow.ex; have hlt := hBB.lt; obtain ⟨i0_, hi_, hz0, hz1, hz2⟩ := info_split info_node; refine wp_append_lies _ _ _ 22 rfl (N + 1) 24 i0_ (.agg #[.int .i64 0, .string ⟨#[]⟩, .int .i64 0, .slice none 0 0]) 4 56 Tryz.underlying22 hi_ hz0 hz1 hz2 rfl (by decide) (.slice none 0 0) [].length (us.flatMap fun u => u.cells.toList) y0 ho ⟨gg, 0, none⟩ 1 1 v0.cells.toList y1 (by rw [Array.length_toList, nd_size hx]) ?_ (by obtain ⟨a, b, c, d, e, e2, p1, p2, p3, p4⟩ := nd_cells hx; rw [e2]; intro q hq; simp at hq; rcases hq with rfl | rfl | rfl | rfl <;> assumption) (by decide) (by unfold maxLen; omega) (by omega) (by omega) u.heap.size rfl ?_
      ·intro j q hj; have e : (⟨gg, 0, none⟩ : Addr).add j = ⟨gg, j, none⟩ := (by unfold Addr.add; split <;> simp_all); rw [e, hgb.cell]; simpa using hj
      ·intro g9 c9 w9 ho9 hg9 ha9 hl9
       exact hK'.out _ _ _ rfl trivial (push_append hF hu1 hu3 ho9 hg9 ha9)
     case sa7 =>
      obtain ⟨v0, v1, v2, rfl⟩ : ∃ v0 v1 v2, vs = [v0, v1, v2] := by match vs, hm 3 (by kernel_rfl) with | [v0, v1, v2], _ => exact ⟨_, _, _, rfl⟩
      have y0 := hd 6 (by decide) (by kernel_rfl); replace y0 : x 29 = .pointer (some ⟨N, 3, none⟩) := y0; have y1 := hd 5 (by decide) (by kernel_rfl) 28 (by kernel_rfl); replace y1 : x 28 = v2 := y1; have hF2 := hF; obtain ⟨xn, ln, hT1, hBB, gg, cc, rfl⟩ := hF2; have hc := hBB.nd.cell 3; have hf := hBB.nd.frozen 3; have hl := hBB.lt; simp at hc
      have HF := Z_ hF; clear hd hm hb hF hBB hT1; go_simp; exact hK'.out _ _ undef (by simp only [y0, y1]; rfl) trivial (push_store HF.out)
    case fina =>
     intro x vs w9 hl hF hk; obtain ⟨v0, v1, v2, v3, rfl⟩ : ∃ v0 v1 v2 v3, vs = [v0, v1, v2, v3] := by match vs, hl with | [v0, v1, v2, v3], _ => exact ⟨_, _, _, _, rfl⟩
     obtain ⟨xn, ln, hT1, hB9⟩ := hF; clear hk hl; replace HT := Z_ (Out.bind_got HT.out hT1.out); replace HB := Z_ hB9; replace HAT := Z_ HB.out.at; clear hT1 hB9; have HN := Z_ (need_any (HAT.out.pr.alloc (.cells #[.string sKet] 9)) w9.heap.size 1 sKet ((Blk.made w9 #[.string sKet] 9).cell 0)); have hEx := (Chg.refl (fun _ => False) w9).alloc (.cells #[.string sKet] 9); replace HB := Z_ (HB.out.extend hEx); replace HAT := Z_ HB.out.at; clear hEx; go_wp2_with fail
     refine HN.out.mono ?_
     rintro e u19 hr; obtain ⟨hC, ⟨lb, hp, rfl⟩ | ⟨_, l19, _, hp, rfl, rfl, hP⟩⟩ := hr.cases (pNeed_ne _ _)
     ·have HF := Z_ (Out.bind_bad HT.out hp)
      have HC := Z_ (HAT.out.chg.then hC); clear hr hp hC; go_wp2_with fail
      exact ⟨rfl, Pst.fails HC.out HF.out⟩
     replace HT := Z_ (Out.bind_got HT.out hp); replace HB := Z_ (HB.out.call hC hP (by have := synm.need_lt hp; omega)); replace HAT := Z_ HB.out.at; clear hr hp hC hP HN; have HT0 := HT.out; clear HT; unfold semi at HT0; have HT := Z_ HT0; clear HT0; have HN := Z_ (need_any (HAT.out.pr.alloc (.cells #[.string sSemi] 9)) u19.heap.size 1 sSemi ((Blk.made u19 #[.string sSemi] 9).cell 0)); have hEx := (Chg.refl (fun _ => False) u19).alloc (.cells #[.string sSemi] 9); replace HB := Z_ (HB.out.extend hEx); replace HAT := Z_ HB.out.at; clear hEx; go_wp2_with fail
     refine HN.out.mono ?_
     rintro e u20 hr; obtain ⟨hC, ⟨lb, hp, rfl⟩ | ⟨_, l20, _, hp, rfl, rfl, hP⟩⟩ := hr.cases (pNeed_ne _ _)
     ·have HF := Z_ (Out.bind_bad HT.out hp)
      have HC := Z_ (HAT.out.chg.then hC); clear hr hp hC; go_wp2_with fail
      exact ⟨rfl, Pst.fails HC.out HF.out⟩
     replace HT := Z_ (Out.bind_got HT.out hp); replace HB := Z_ (HB.out.call hC hP (by have := synm.need_lt hp; omega)); replace HAT := Z_ HB.out.at; clear hr hp hC hP HN; obtain ⟨ra, rn, rc, hrow⟩ := HB.out.slice3
     first | subst hrow | clear hrow
     have c0 := HB.out.nd.cell 0; have c1 := HB.out.nd.cell 1; have c2 := HB.out.nd.cell 2; have c3 := HB.out.nd.cell 3; have r0 := HB.out.res.cell; have rf := HB.out.res.frozen; have rl := HB.out.res.lt; unfold zeroNd at r0; simp at c0 c1 c2 c3
     go_wp2_with fail
     refine ends_at rfl rfl rfl ((((HB.out.res.set 0 _).set 1 _).set 2 _).set 3 _) Tryz.underlying24 rfl (by kernel_rfl) ?_
     exact HB.out.ret (by have := HSZ.out; omega) (HT.out.symm) _ _ _ _
  | true =>
   replace hP : PrAt W u12 S E l.tail.tail := by simpa using hP
   have HT0 := HT.out; clear HT; simp only [↓reduceIte] at HT0; have HT := Z_ HT0; clear HT0; replace HAT := Z_ (HAT.out.call hC hP); clear hC hP HH HLE; have HAT0 := HAT.out.lt; obtain ⟨B, hB⟩ : ∃ B, u12.heap.size = B := ⟨_, rfl⟩; rw [hB] at HAT0; have HN := Z_ (ih n (Nat.le_refl _) (.proc 2) _ _ HAT.out.pr HM.out rfl (by decide : (0 : Int) ≤ 2 ∧ (2 : Int) ≤ 2) (by rw [HT.out]; exact HNE.out)); go_wp2_with fail
   refine HN.out.mono ?_
   rintro e u20 hr; obtain ⟨hC, ⟨lb, hp, rfl⟩ | ⟨x20, l20, v20, hp, rfl, hv, hP⟩⟩ := hr.cases (by rw [HT.out]; exact HNE.out)
   ·have HF := Z_ (HT.out.symm.trans hp)
    have HC := Z_ (HAT.out.chg.then hC); clear hr hp hC; go_wp2_with fail
    exact ⟨rfl, Pst.fails HC.out HF.out⟩
   replace HT := Z_ (HT.out.symm.trans hp); replace HAT := Z_ (HAT.out.call hC hP); obtain ⟨ka20, ta20, ma20, aa20, na20, ca20, rfl⟩ := nd_form hv; have HV20 := Z_ hv; have hsz20 : u12.heap.size ≤ u20.heap.size := hC.size; clear hr hp hC hP hv HN; rw [hB] at HV20; have r0 := HAT.out.res.cell; have rf := HAT.out.res.frozen; have rl := HAT.out.res.lt; unfold zeroNd at r0; go_wp2_with fail
   refine ends_at rfl rfl rfl ((((HAT.out.res.set 0 _).set 1 _).set 2 _).set 3 _) Tryz.underlying24 rfl (by kernel_rfl) ?_
   exact ret_value HAT.out (below B) (HV20.out) (below_yes (by omega)) (fun i hi => below_yes (by omega)) (HT.out)
set_option maxRecDepth 100000 in
set_option maxHeartbeats 4000000 in
theorem proc_any {n : Nat} (ih : ∀ m, m ≤ n → Good m) {W w : World} {S E : Nat} {l : List Tk} {pub : Int} (h : PrAt W w S E l) (hm : MaxVar W) (hpub : 0 ≤ pub ∧ pub ≤ 2) (hne : prs (n + 1) (.proc pub) l ≠ .out) :
  Calls Tryz.prog 176 #[.pointer (some ⟨S, 0, none⟩), .int .i64 pub] w (Pst (VN w.heap.size) W w S E (prs (n + 1) (.proc pub) l)) := by
 obtain ⟨T, hT⟩ : ∃ T, prs (n + 1) (.proc pub) l = T := ⟨_, rfl⟩; rw [hT] at hne ⊢; simp only [prs] at hT; have HT := Z_ hT; have HNE := Z_ hne; have HM := Z_ hm; have HAT : Hid (At W w (w.alloc (.cells #[.int .i64 0, .string ⟨#[]⟩, .int .i64 0, .slice none 0 0] 24)) S E w.heap.size l) := Z_ (At.start h); obtain ⟨A, hA⟩ : ∃ A, w.heap.size = A := ⟨_, rfl⟩; rw [hA] at HAT; have hSA : S < A := by have := h.lt; omega
 clear h hm hne hT; go_enter Tryz.func176, Tryz.ntmps176
 go_upto_region 1 with (fail)
 generalize w.alloc (.cells #[.int .i64 0, .string ⟨#[]⟩, .int .i64 0, .slice none 0 0] 24) = u0 at *; have HPUB := Z_ hpub; clear hpub; have HN := Z_ (name_any HAT.out.pr HM.out); go_wp2_with fail
 refine HN.out.mono ?_
 rintro e u1 hr; obtain ⟨hC, ⟨lb, hp, rfl⟩ | ⟨s1, l1, v, hp, rfl, ⟨rfl, hs⟩, hP⟩⟩ := hr.cases (pName_ne _)
 ·have HF := Z_ (Out.bind_bad HT.out hp)
  have HC := Z_ (HAT.out.chg.then hC); clear hr hp hC; go_wp2_with fail
  exact ⟨rfl, Pst.fails HC.out HF.out⟩
 replace HT := Z_ (Out.bind_got HT.out hp); replace HAT := Z_ (HAT.out.call hC hP); have HSZ := Z_ hs; clear hr hp hC hP HN; clear hs; generalize s1 = s at *; go_wp2_with fail
 refine (node_any _ _ _ _ _ _ _).mono ?_
 rintro e u2 ⟨rfl, hE⟩; replace HAT := Z_ (HAT.out.extend hE); have HB := Z_ ((HAT.out.alloc (.cells #[.int .i64 (4), .string s, .int .i64 (pub), .slice none 0 0] 24)).bld (Blk.made u2 _ _) HAT.out.lt); obtain ⟨N, hN⟩ : ∃ N, u2.heap.size = N := ⟨_, rfl⟩; rw [hN] at HB; clear hE HAT; go_upto_region 2 with (fail)
 generalize u2.alloc (.cells #[.int .i64 (4), .string s, .int .i64 (pub), .slice none 0 0] 24) = v0 at *; have HAT := Z_ HB.out.at; have HN := Z_ (need_any (HAT.out.pr.alloc (.cells #[.string sOpen] 9)) v0.heap.size 1 sOpen ((Blk.made v0 #[.string sOpen] 9).cell 0)); have hEx := (Chg.refl (fun _ => False) v0).alloc (.cells #[.string sOpen] 9); replace HB := Z_ (HB.out.extend hEx); replace HAT := Z_ HB.out.at; clear hEx; go_wp2_with fail
 refine HN.out.mono ?_
 rintro e u3 hr; obtain ⟨hC, ⟨lb, hp, rfl⟩ | ⟨_, l3, _, hp, rfl, rfl, hP⟩⟩ := hr.cases (pNeed_ne _ _)
 ·have HF := Z_ (Out.bind_bad HT.out hp)
  have HC := Z_ (HAT.out.chg.then hC); clear hr hp hC; go_wp2_with fail
  exact ⟨rfl, Pst.fails HC.out HF.out⟩
 replace HT := Z_ (Out.bind_got HT.out hp); replace HB := Z_ (HB.out.call hC hP (by have := synm.need_lt hp; omega)); replace HAT := Z_ HB.out.at; clear hr hp hC hP HN; go_upto_block 0 with (fail)
 go_cut [] (fun w' => ∃ (mm : Nat) (acc : List Nd) (row : Value) (l2 : List Tk), mm ≤ n ∧ Hid ((fun (mm : Nat) (acc : List Nd) (l : List Tk) => (pNeed sClose l).bind fun _ l => (pLabel l).bind fun b l => if isB l [sGives] = true then (pLabel l.tail).bind fun g l => (prs mm .block l).bind fun x l => .got (.mk 4 s (pub + b + (4 + 4 * g)) (acc ++ [x])) l else (prs mm .block l).bind fun x l => .got (.mk 4 s (pub + b) (acc ++ [x])) l) mm acc l2 = T) ∧ Hid (Bld W w w' S E A N l2 4 s pub row row acc))
 case first =>
  go_wp2_with fail
  go_loopg [] n (fun k wr => ∃ l2 acc row, k ≤ n ∧ Hid (prs k (.params s pub acc) l2 = T) ∧ Hid (Bld W w wr S E A N l2 4 s pub row row acc))
  case atStart => exact ⟨l3, [], .slice none 0 0, Nat.le_refl _, HT, HB⟩
  clear HT HB HAT
  case round =>
   obtain ⟨lr, acc, row, hkn, HT, HB⟩ := hrel; cases gk with
   | zero => exact absurd HT.out.symm HNE.out
   | succ m =>
    have HT0 := HT.out; clear HT; simp only [prs] at HT0; have HT := Z_ HT0; clear HT0; have HAT := Z_ HB.out.at; obtain ⟨ra, rc, rfl⟩ := HB.out.slice
    have HH := Z_ (is_any (HAT.out.pr.alloc (.cells #[.string sClose] 9)) wr.heap.size [sClose] 1 1 rfl (by decide) (fun j hj => by
     obtain rfl : j = 0 := by simpa using hj
     exact (Blk.made wr #[.string sClose] 9).cell 0) (by simp))
    have hEx := (Chg.refl (fun _ => False) wr).alloc (.cells #[.string sClose] 9); replace HB := Z_ (HB.out.extend hEx); replace HAT := Z_ HB.out.at; clear hEx; generalize isB lr [sClose] = R at *; go_wp2_with fail
    refine HH.out.mono ?_
    rintro e u4 ⟨rfl, hE⟩; replace HB := Z_ (HB.out.extend hE); replace HAT := Z_ HB.out.at; clear hE HH; cases R with
    | false =>
     have HT0 := HT.out; clear HT; simp only [Bool.false_eq_true, false_and, ↓reduceIte] at HT0; have HT := Z_ HT0; clear HT0; have HN := Z_ (label_any HAT.out.pr); go_wp2_with fail
     refine HN.out.mono ?_
     rintro e u5 hr; obtain ⟨hC, ⟨lb, hp, rfl⟩ | ⟨b5, l5, v, hp, rfl, ⟨rfl, hb0, hb1⟩, hP⟩⟩ := hr.cases (pLabel_ne _)
     ·have HF := Z_ (Out.bind_bad HT.out hp)
      have HC := Z_ (HAT.out.chg.then hC); clear hr hp hC; go_wp2_with fail
      exact ⟨rfl, Pst.fails HC.out HF.out⟩
     replace HT := Z_ (Out.bind_got HT.out hp); replace HB := Z_ (HB.out.call hC hP (by have := synm.label_lt hp; omega)); replace HAT := Z_ HB.out.at; have HBP := Z_ (And.intro hb0 hb1); clear hr hp hC hP HN; clear hb0 hb1; go_upto_region 5 with (fail)
     refine wp_region_weave [3, 5, 6, 7, 9] (fun i v _ => v = ([.pointer (some ⟨N, 3, none⟩), (.slice ra acc.length rc), .pointer (some ⟨S, 0, none⟩), undef, .int .i64 b5, undef, undef, undef, .pointer (some ⟨N, 3, none⟩), undef] : List Value).getD i undef) (PushN W w S E A N l5 4 s pub (.slice ra acc.length rc) acc 5 b5) (fun _ _ => True) (frame := ?fraa) (fun x => ?hfaa) mixed (by kernel_rfl) (by kernel_rfl) (fun _ _ _ _ h _ => h) ?h0a ?sta ?fina
     case hfaa =>
      simp only [chain.frameOf, chain.fill, chain.setOpt, chain.dstOf, List.size_toArray, List.length_cons, List.length_nil, List.getElem?_toArray, List.getElem?_cons_succ, List.getElem?_cons_zero, List.setIfInBounds_toArray, List.set_cons_succ, List.set_cons_zero]; exact rfl
     case h0a => exact HB.out.extend (Chg.refl _ _).drew
     case sta =>
      refine AllFrom.cons (fun x vs u hF hm hb hd K' hK' => ?sa0) (AllFrom.cons (fun x vs u hF hm hb hd K' hK' => ?sa1) (AllFrom.cons (fun x vs u hF hm hb hd K' hK' => ?sa2) (AllFrom.cons (fun x vs u hF hm hb hd K' hK' => ?sa3) (AllFrom.cons (fun x vs u hF hm hb hd K' hK' => ?sa4) (AllFrom.cons (fun x vs u hF hm hb hd K' hK' => ?sa5) (AllFrom.cons (fun x vs u hF hm hb hd K' hK' => ?sa6) (AllFrom.cons (fun x vs u hF hm hb hd K' hK' => ?sa7) (AllFrom.cons (fun x vs u hF hm hb hd K' hK' => ?sa8) (AllFrom.cons (fun x vs u hF hm hb hd K' hK' => ?sa9) (AllFrom.nil))))))))))
      case sa0 =>
       have HF := Z_ hF; clear hd hm hb hF; go_simp; exact hK'.out _ _ _ rfl trivial ⟨rfl, HF.out⟩
      case sa2 =>
       have HF := Z_ hF; clear hd hm hb hF; go_simp; exact hK'.out _ _ _ rfl trivial ⟨rfl, HF.out⟩
      case sa8 =>
       have HF := Z_ hF; clear hd hm hb hF; go_simp; exact hK'.out _ _ _ rfl trivial ⟨rfl, HF.out⟩
      case sa4 =>
       have HF := Z_ hF; clear hd hm hb hF; go_simp; exact hK'.out _ _ _ rfl trivial ⟨rfl, HF.out⟩
      case sa1 =>
       have y0 := hd 0 (by decide) (by kernel_rfl); replace y0 : x 26 = .pointer (some ⟨N, 3, none⟩) := y0; have hc := hF.cell (by have := hb 3 _ (by decide) rfl (by kernel_rfl); omega); have HF := Z_ hF; clear hd hm hb hF; go_simp; exact hK'.out _ _ _ (by simp only [y0]; rfl) trivial ⟨rfl, HF.out⟩
      case sa3 =>
       have y0 := hd 2 (by decide) (by kernel_rfl); replace y0 : x 28 = .pointer (some ⟨S, 0, none⟩) := y0; obtain rfl := List.eq_nil_of_length_eq_zero (hm 0 (by kernel_rfl)); have HF := Z_ (show Bld _ _ _ _ _ _ _ _ _ _ _ _ _ _ from hF); clear hd hm hb hF; have HCA := Z_ (name_any HF.out.pr HM.out); go_simp; refine HCA.out.mono ?_
       rintro e u2 hr; obtain ⟨hC, ⟨lb, hp, rfl⟩ | ⟨sn, lx, v, hp, rfl, ⟨rfl, hsz⟩, hP⟩⟩ := hr.cases (pName_ne _)
       ·have HE := Z_ (Out.bind_bad HT.out hp)
        have HC := Z_ (HF.out.chg.then hC); clear hr hp hC hK' HCA; go_wp2_with fail
        exact ⟨rfl, Pst.fails HC.out HE.out⟩
       ·exact hK'.out _ _ _ (by simp only [y0]; rfl) trivial (pushn_name HF.out hC hp hsz hP)
      case sa5 =>
       obtain ⟨v0, rfl⟩ : ∃ v0, vs = [v0] := by match vs, hm 1 (by kernel_rfl) with | [v0], _ => exact ⟨_, rfl⟩
       have y0 := hd 3 (by decide) (by kernel_rfl) 29 (by kernel_rfl); replace y0 : x 29 = v0 := y0; have y1 := hd 4 (by decide) (by kernel_rfl); replace y1 : x 30 = .int .i64 b5 := y1; have hcl : ∃ s, v0 = .string s := by obtain ⟨s, ln, _, e, _⟩ := hF; exact ⟨s, e⟩
       obtain ⟨sn, rfl⟩ := hcl; have HF := Z_ hF; clear hd hm hb hF; go_simp; refine (node_any _ _ _ _ _ _ _).mono ?_
       rintro e u2 ⟨rfl, hE⟩; exact hK'.out _ _ _ (by simp only [y0, y1]; rfl) trivial (pushn_node HF.out hE)
      case sa6 =>
       obtain ⟨vz, v0, rfl⟩ : ∃ vz v0, vs = [vz, v0] := by match vs, hm 2 (by kernel_rfl) with | [vz, v0], _ => exact ⟨_, _, rfl⟩
       have y0 := hd 5 (by decide) (by kernel_rfl) 31 (by kernel_rfl); replace y0 : x 31 = v0 := y0; replace hF : PushF W w S E A N l5 4 s pub (.slice ra acc.length rc) acc (pLeaf 5 b5 l5) [v0] u := hF; have hcl : ∃ a b c d, v0 = .agg #[a, b, c, d] := by obtain ⟨xn, ln, _, _, _, hx⟩ := hF; obtain ⟨a, b, c, d, h, _⟩ := nd_cells hx; exact ⟨a, b, c, d, h⟩
       obtain ⟨a0, b0, c0, d0, rfl⟩ := hcl; have HF := Z_ hF; clear hd hm hb hF; go_simp; exact hK'.out _ _ _ (by simp only [y0]; rfl) trivial (push_slice HF.out rfl)
      case sa7 =>
       obtain ⟨vz, v0, v1, rfl⟩ : ∃ vz v0 v1, vs = [vz, v0, v1] := by match vs, hm 3 (by kernel_rfl) with | [vz, v0, v1], _ => exact ⟨_, _, _, rfl⟩
       have y0 := hd 1 (by decide) (by kernel_rfl); replace y0 : x 27 = (.slice ra acc.length rc) := y0; have y1 := hd 6 (by decide) (by kernel_rfl) 32 (by kernel_rfl); replace y1 : x 32 = v1 := y1; replace hF : PushF W w S E A N l5 4 s pub (.slice ra acc.length rc) acc (pLeaf 5 b5 l5) [v0, v1] u := hF; have hF2 := hF; obtain ⟨xn, ln, hT1, hBB, hfew, hx, gg, rfl, hgb, hgr⟩ := hF2; obtain ⟨us, hu1, ho, hu3⟩ := hBB.grow.ex; have hlt := hBB.lt; obtain ⟨i0_, hi_, hz0, hz1, hz2⟩ := info_split info_node; refine wp_append_lies _ _ _ 22 rfl (N + 1) 24 i0_ (.agg #[.int .i64 0, .string ⟨#[]⟩, .int .i64 0, .slice none 0 0]) 4 56 Tryz.underlying22 hi_ hz0 hz1 hz2 rfl (by decide) (.slice ra acc.length rc) acc.length (us.flatMap fun u => u.cells.toList) y0 ho ⟨gg, 0, none⟩ 1 1 v0.cells.toList y1 (by rw [Array.length_toList, nd_size hx]) ?_ (by obtain ⟨a, b, c, d, e, e2, p1, p2, p3, p4⟩ := nd_cells hx; rw [e2]; intro q hq; simp at hq; rcases hq with rfl | rfl | rfl | rfl <;> assumption) (by decide) (by unfold maxLen; omega) (by omega) (by omega) u.heap.size rfl ?_
       ·intro j q hj; have e : (⟨gg, 0, none⟩ : Addr).add j = ⟨gg, j, none⟩ := (by unfold Addr.add; split <;> simp_all); rw [e, hgb.cell]; simpa using hj
       ·intro g9 c9 w9 ho9 hg9 ha9 hl9
        exact hK'.out _ _ _ rfl trivial (push_append hF hu1 hu3 ho9 hg9 ha9)
      case sa9 =>
       obtain ⟨vz, v0, v1, v2, rfl⟩ : ∃ vz v0 v1 v2, vs = [vz, v0, v1, v2] := by match vs, hm 4 (by kernel_rfl) with | [vz, v0, v1, v2], _ => exact ⟨_, _, _, _, rfl⟩
       have y0 := hd 8 (by decide) (by kernel_rfl); replace y0 : x 34 = .pointer (some ⟨N, 3, none⟩) := y0; have y1 := hd 7 (by decide) (by kernel_rfl) 33 (by kernel_rfl); replace y1 : x 33 = v2 := y1; replace hF : PushF W w S E A N l5 4 s pub (.slice ra acc.length rc) acc (pLeaf 5 b5 l5) [v0, v1, v2] u := hF; have hF2 := hF; obtain ⟨xn, ln, hT1, hBB, gg, cc, rfl⟩ := hF2; have hc := hBB.nd.cell 3; have hf := hBB.nd.frozen 3; have hl := hBB.lt; simp at hc
       have HF := Z_ hF; clear hd hm hb hF hBB hT1; go_simp; exact hK'.out _ _ undef (by simp only [y0, y1]; rfl) trivial (push_store (z := undef) HF.out)
     case fina =>
      intro x vs w9 hl hF hk; obtain ⟨vz, v0, v1, v2, v3, rfl⟩ : ∃ vz v0 v1 v2 v3, vs = [vz, v0, v1, v2, v3] := by match vs, hl with | [vz, v0, v1, v2, v3], _ => exact ⟨_, _, _, _, _, rfl⟩
      obtain ⟨xn, ln, hT1, hB9⟩ := hF; clear hk hl; have hT2 := hT1.out; unfold pLeaf at hT2; obtain ⟨sn, lz, hq1, hq2⟩ := synm.got_bind hT2; injection hq2 with hq3 hq4
      subst hq3 hq4; replace HT := Z_ (Out.bind_got HT.out hq1); replace HB := Z_ hB9; replace HAT := Z_ HB.out.at; clear hT1 hB9 hT2 hq1; have HH := Z_ (have_any HAT.out.pr sComma); have HLE := Z_ (fun (h : isB lz [sComma] = true) => synm.tail_lt h); generalize isB lz [sComma] = R at *; go_wp2_with fail
      refine HH.out.mono ?_
      rintro e u6 ⟨rfl, hC, hP⟩; cases R with
      | false =>
       replace hP : PrAt W u6 S E lz := by simpa using hP
       have HT0 := HT.out; clear HT; simp only [Bool.false_eq_true, ↓reduceIte] at HT0; have HT := Z_ HT0; clear HT0; replace HB := Z_ (HB.out.call hC hP (Nat.le_refl _)); replace HAT := Z_ HB.out.at; clear hC hP HH HLE; go_wp2_with fail
       go_meet
       exact ⟨m, acc ++ [.mk 5 sn b5 []], v2, lz, by omega, HT, HB⟩
      | true =>
       replace hP : PrAt W u6 S E lz.tail := by simpa using hP
       have HT0 := HT.out; clear HT; simp only [↓reduceIte] at HT0; have HT := Z_ HT0; clear HT0; replace HB := Z_ (HB.out.call hC hP (by have := HLE.out rfl; omega)); replace HAT := Z_ HB.out.at; clear hC hP HH HLE; go_wp2_with fail
       go_roundg m
       case rel => exact ⟨lz.tail, acc ++ [.mk 5 sn b5 []], v2, by omega, HT, HB⟩
       case measure => omega
    | true =>
     have c3 := HB.out.nd.cell 3; simp at c3
     by_cases hl0 : acc.length = 0
     ·have HT0 := HT.out
      clear HT; simp only [hl0, and_self, ↓reduceIte] at HT0; have HT := Z_ HT0; clear HT0; have HB2 : Hid (∃ row, Bld W w u4 S E A N lr 4 s pub row row acc) := Z_ ⟨_, HB.out⟩; clear HB HAT; rw [hl0] at c3; go_wp2_with fail
      go_meet
      obtain ⟨row, HB⟩ := HB2.out; exact ⟨m, acc, row, lr, by omega, HT, Z_ HB⟩
     ·have HT0 := HT.out
      clear HT; simp only [hl0, and_false, ↓reduceIte] at HT0; have HT := Z_ HT0; clear HT0; have hl1 : 0 < acc.length := by omega
      have HN := Z_ (label_any HAT.out.pr); go_wp2_with fail
      refine HN.out.mono ?_
      rintro e u6 hr; obtain ⟨hC, ⟨lb, hp, rfl⟩ | ⟨b6, l6, v, hp, rfl, ⟨rfl, hb0, hb1⟩, hP⟩⟩ := hr.cases (pLabel_ne _)
      ·have HF := Z_ (Out.bind_bad HT.out hp)
       have HC := Z_ (HAT.out.chg.then hC); clear hr hp hC; go_wp2_with fail
       exact ⟨rfl, Pst.fails HC.out HF.out⟩
      replace HT := Z_ (Out.bind_got HT.out hp); replace HB := Z_ (HB.out.call hC hP (by have := synm.label_lt hp; omega)); replace HAT := Z_ HB.out.at; have HBP := Z_ (And.intro hb0 hb1); clear hr hp hC hP HN; clear hb0 hb1; go_upto_region 5 with (fail)
      refine wp_region_weave [3, 5, 6, 7, 9] (fun i v _ => v = ([.pointer (some ⟨N, 3, none⟩), (.slice ra acc.length rc), .pointer (some ⟨S, 0, none⟩), undef, .int .i64 b6, undef, undef, undef, .pointer (some ⟨N, 3, none⟩), undef] : List Value).getD i undef) (PushN W w S E A N l6 4 s pub (.slice ra acc.length rc) acc 5 b6) (fun _ _ => True) (frame := ?frab) (fun x => ?hfab) mixed (by kernel_rfl) (by kernel_rfl) (fun _ _ _ _ h _ => h) ?h0b ?stb ?finb
      case hfab =>
       simp only [chain.frameOf, chain.fill, chain.setOpt, chain.dstOf, List.size_toArray, List.length_cons, List.length_nil, List.getElem?_toArray, List.getElem?_cons_succ, List.getElem?_cons_zero, List.setIfInBounds_toArray, List.set_cons_succ, List.set_cons_zero]; exact rfl
      case h0b => exact HB.out.extend (Chg.refl _ _).drew
      case stb =>
       refine AllFrom.cons (fun x vs u hF hm hb hd K' hK' => ?sb0) (AllFrom.cons (fun x vs u hF hm hb hd K' hK' => ?sb1) (AllFrom.cons (fun x vs u hF hm hb hd K' hK' => ?sb2) (AllFrom.cons (fun x vs u hF hm hb hd K' hK' => ?sb3) (AllFrom.cons (fun x vs u hF hm hb hd K' hK' => ?sb4) (AllFrom.cons (fun x vs u hF hm hb hd K' hK' => ?sb5) (AllFrom.cons (fun x vs u hF hm hb hd K' hK' => ?sb6) (AllFrom.cons (fun x vs u hF hm hb hd K' hK' => ?sb7) (AllFrom.cons (fun x vs u hF hm hb hd K' hK' => ?sb8) (AllFrom.cons (fun x vs u hF hm hb hd K' hK' => ?sb9) (AllFrom.nil))))))))))
       case sb0 =>
        have HF := Z_ hF; clear hd hm hb hF; go_simp; exact hK'.out _ _ _ rfl trivial ⟨rfl, HF.out⟩
       case sb2 =>
        have HF := Z_ hF; clear hd hm hb hF; go_simp; exact hK'.out _ _ _ rfl trivial ⟨rfl, HF.out⟩
       case sb8 =>
        have HF := Z_ hF; clear hd hm hb hF; go_simp; exact hK'.out _ _ _ rfl trivial ⟨rfl, HF.out⟩
       case sb4 =>
        have HF := Z_ hF; clear hd hm hb hF; go_simp; exact hK'.out _ _ _ rfl trivial ⟨rfl, HF.out⟩
       case sb1 =>
        have y0 := hd 0 (by decide) (by kernel_rfl); replace y0 : x 26 = .pointer (some ⟨N, 3, none⟩) := y0; have hc := hF.cell (by have := hb 3 _ (by decide) rfl (by kernel_rfl); omega); have HF := Z_ hF; clear hd hm hb hF; go_simp; exact hK'.out _ _ _ (by simp only [y0]; rfl) trivial ⟨rfl, HF.out⟩
       case sb3 =>
        have y0 := hd 2 (by decide) (by kernel_rfl); replace y0 : x 28 = .pointer (some ⟨S, 0, none⟩) := y0; obtain rfl := List.eq_nil_of_length_eq_zero (hm 0 (by kernel_rfl)); have HF := Z_ (show Bld _ _ _ _ _ _ _ _ _ _ _ _ _ _ from hF); clear hd hm hb hF; have HCA := Z_ (name_any HF.out.pr HM.out); go_simp; refine HCA.out.mono ?_
        rintro e u2 hr; obtain ⟨hC, ⟨lb, hp, rfl⟩ | ⟨sn, lx, v, hp, rfl, ⟨rfl, hsz⟩, hP⟩⟩ := hr.cases (pName_ne _)
        ·have HE := Z_ (Out.bind_bad HT.out hp)
         have HC := Z_ (HF.out.chg.then hC); clear hr hp hC hK' HCA; go_wp2_with fail
         exact ⟨rfl, Pst.fails HC.out HE.out⟩
        ·exact hK'.out _ _ _ (by simp only [y0]; rfl) trivial (pushn_name HF.out hC hp hsz hP)
       case sb5 =>
        obtain ⟨v0, rfl⟩ : ∃ v0, vs = [v0] := by match vs, hm 1 (by kernel_rfl) with | [v0], _ => exact ⟨_, rfl⟩
        have y0 := hd 3 (by decide) (by kernel_rfl) 29 (by kernel_rfl); replace y0 : x 29 = v0 := y0; have y1 := hd 4 (by decide) (by kernel_rfl); replace y1 : x 30 = .int .i64 b6 := y1; have hcl : ∃ s, v0 = .string s := by obtain ⟨s, ln, _, e, _⟩ := hF; exact ⟨s, e⟩
        obtain ⟨sn, rfl⟩ := hcl; have HF := Z_ hF; clear hd hm hb hF; go_simp; refine (node_any _ _ _ _ _ _ _).mono ?_
        rintro e u2 ⟨rfl, hE⟩; exact hK'.out _ _ _ (by simp only [y0, y1]; rfl) trivial (pushn_node HF.out hE)
       case sb6 =>
        obtain ⟨vz, v0, rfl⟩ : ∃ vz v0, vs = [vz, v0] := by match vs, hm 2 (by kernel_rfl) with | [vz, v0], _ => exact ⟨_, _, rfl⟩
        have y0 := hd 5 (by decide) (by kernel_rfl) 31 (by kernel_rfl); replace y0 : x 31 = v0 := y0; replace hF : PushF W w S E A N l6 4 s pub (.slice ra acc.length rc) acc (pLeaf 5 b6 l6) [v0] u := hF; have hcl : ∃ a b c d, v0 = .agg #[a, b, c, d] := by obtain ⟨xn, ln, _, _, _, hx⟩ := hF; obtain ⟨a, b, c, d, h, _⟩ := nd_cells hx; exact ⟨a, b, c, d, h⟩
        obtain ⟨a0, b0, c0, d0, rfl⟩ := hcl; have HF := Z_ hF; clear hd hm hb hF; go_simp; exact hK'.out _ _ _ (by simp only [y0]; rfl) trivial (push_slice HF.out rfl)
       case sb7 =>
        obtain ⟨vz, v0, v1, rfl⟩ : ∃ vz v0 v1, vs = [vz, v0, v1] := by match vs, hm 3 (by kernel_rfl) with | [vz, v0, v1], _ => exact ⟨_, _, _, rfl⟩
        have y0 := hd 1 (by decide) (by kernel_rfl); replace y0 : x 27 = (.slice ra acc.length rc) := y0; have y1 := hd 6 (by decide) (by kernel_rfl) 32 (by kernel_rfl); replace y1 : x 32 = v1 := y1; replace hF : PushF W w S E A N l6 4 s pub (.slice ra acc.length rc) acc (pLeaf 5 b6 l6) [v0, v1] u := hF; have hF2 := hF; obtain ⟨xn, ln, hT1, hBB, hfew, hx, gg, rfl, hgb, hgr⟩ := hF2; obtain ⟨us, hu1, ho, hu3⟩ := hBB.grow.ex; have hlt := hBB.lt; obtain ⟨i0_, hi_, hz0, hz1, hz2⟩ := info_split info_node; refine wp_append_lies _ _ _ 22 rfl (N + 1) 24 i0_ (.agg #[.int .i64 0, .string ⟨#[]⟩, .int .i64 0, .slice none 0 0]) 4 56 Tryz.underlying22 hi_ hz0 hz1 hz2 rfl (by decide) (.slice ra acc.length rc) acc.length (us.flatMap fun u => u.cells.toList) y0 ho ⟨gg, 0, none⟩ 1 1 v0.cells.toList y1 (by rw [Array.length_toList, nd_size hx]) ?_ (by obtain ⟨a, b, c, d, e, e2, p1, p2, p3, p4⟩ := nd_cells hx; rw [e2]; intro q hq; simp at hq; rcases hq with rfl | rfl | rfl | rfl <;> assumption) (by decide) (by unfold maxLen; omega) (by omega) (by omega) u.heap.size rfl ?_
        ·intro j q hj; have e : (⟨gg, 0, none⟩ : Addr).add j = ⟨gg, j, none⟩ := (by unfold Addr.add; split <;> simp_all); rw [e, hgb.cell]; simpa using hj
        ·intro g9 c9 w9 ho9 hg9 ha9 hl9
         exact hK'.out _ _ _ rfl trivial (push_append hF hu1 hu3 ho9 hg9 ha9)
       case sb9 =>
        obtain ⟨vz, v0, v1, v2, rfl⟩ : ∃ vz v0 v1 v2, vs = [vz, v0, v1, v2] := by match vs, hm 4 (by kernel_rfl) with | [vz, v0, v1, v2], _ => exact ⟨_, _, _, _, rfl⟩
        have y0 := hd 8 (by decide) (by kernel_rfl); replace y0 : x 34 = .pointer (some ⟨N, 3, none⟩) := y0; have y1 := hd 7 (by decide) (by kernel_rfl) 33 (by kernel_rfl); replace y1 : x 33 = v2 := y1; replace hF : PushF W w S E A N l6 4 s pub (.slice ra acc.length rc) acc (pLeaf 5 b6 l6) [v0, v1, v2] u := hF; have hF2 := hF; obtain ⟨xn, ln, hT1, hBB, gg, cc, rfl⟩ := hF2; have hc := hBB.nd.cell 3; have hf := hBB.nd.frozen 3; have hl := hBB.lt; simp at hc
        have HF := Z_ hF; clear hd hm hb hF hBB hT1; go_simp; exact hK'.out _ _ undef (by simp only [y0, y1]; rfl) trivial (push_store (z := undef) HF.out)
      case finb =>
       intro x vs w9 hl hF hk; obtain ⟨vz, v0, v1, v2, v3, rfl⟩ : ∃ vz v0 v1 v2 v3, vs = [vz, v0, v1, v2, v3] := by match vs, hl with | [vz, v0, v1, v2, v3], _ => exact ⟨_, _, _, _, _, rfl⟩
       obtain ⟨xn, ln, hT1, hB9⟩ := hF; clear hk hl; have hT2 := hT1.out; unfold pLeaf at hT2; obtain ⟨sn, lz, hq1, hq2⟩ := synm.got_bind hT2; injection hq2 with hq3 hq4
       subst hq3 hq4; replace HT := Z_ (Out.bind_got HT.out hq1); replace HB := Z_ hB9; replace HAT := Z_ HB.out.at; clear hT1 hB9 hT2 hq1; have HH := Z_ (have_any HAT.out.pr sComma); have HLE := Z_ (fun (h : isB lz [sComma] = true) => synm.tail_lt h); generalize isB lz [sComma] = R at *; go_wp2_with fail
       refine HH.out.mono ?_
       rintro e u7 ⟨rfl, hC, hP⟩; cases R with
       | false =>
        replace hP : PrAt W u7 S E lz := by simpa using hP
        have HT0 := HT.out; clear HT; simp only [Bool.false_eq_true, ↓reduceIte] at HT0; have HT := Z_ HT0; clear HT0; replace HB := Z_ (HB.out.call hC hP (Nat.le_refl _)); replace HAT := Z_ HB.out.at; clear hC hP HH HLE; go_wp2_with fail
        go_meet
        exact ⟨m, acc ++ [.mk 5 sn b6 []], v2, lz, by omega, HT, HB⟩
       | true =>
        replace hP : PrAt W u7 S E lz.tail := by simpa using hP
        have HT0 := HT.out; clear HT; simp only [↓reduceIte] at HT0; have HT := Z_ HT0; clear HT0; replace HB := Z_ (HB.out.call hC hP (by have := HLE.out rfl; omega)); replace HAT := Z_ HB.out.at; clear hC hP HH HLE; go_wp2_with fail
        go_roundg m
        case rel => exact ⟨lz.tail, acc ++ [.mk 5 sn b6 []], v2, by omega, HT, HB⟩
        case measure => omega
 case rest =>
  clear HT HB HAT; obtain ⟨mm, acc, row, l2, hmm, HT, HB⟩ := hcut; have HAT := Z_ HB.out.at; generalize wc = u7 at *; have HT0 := HT.out; clear HT; simp only at HT0; have HT := Z_ HT0; clear HT0; have HN := Z_ (need_any (HAT.out.pr.alloc (.cells #[.string sClose] 9)) u7.heap.size 1 sClose ((Blk.made u7 #[.string sClose] 9).cell 0)); have hEx := (Chg.refl (fun _ => False) u7).alloc (.cells #[.string sClose] 9); replace HB := Z_ (HB.out.extend hEx); replace HAT := Z_ HB.out.at; clear hEx; go_wp2_with fail
  refine HN.out.mono ?_
  rintro e u6 hr; obtain ⟨hC, ⟨lb, hp, rfl⟩ | ⟨_, l6, _, hp, rfl, rfl, hP⟩⟩ := hr.cases (pNeed_ne _ _)
  ·have HF := Z_ (Out.bind_bad HT.out hp)
   have HC := Z_ (HAT.out.chg.then hC); clear hr hp hC; go_wp2_with fail
   exact ⟨rfl, Pst.fails HC.out HF.out⟩
  replace HT := Z_ (Out.bind_got HT.out hp); replace HB := Z_ (HB.out.call hC hP (by have := synm.need_lt hp; omega)); replace HAT := Z_ HB.out.at; clear hr hp hC hP HN; go_upto_region 8 with (fail)
  refine wp_region_weave [3, 4, 6] (fun i v _ => v = ([.pointer (some ⟨N, 2, none⟩), .int .i64 (pub), .pointer (some ⟨S, 0, none⟩), undef, undef, .pointer (some ⟨N, 2, none⟩), undef] : List Value).getD i undef) (NumF W w S E A N l6 4 s (pub) row acc [fun b => pub + b]) (fun _ _ => True) (frame := ?frac) (fun x => ?hfac) mixed (by kernel_rfl) (by kernel_rfl) (fun _ _ _ _ h _ => h) ?h0c ?stc ?finc
  case hfac =>
   simp only [chain.frameOf, chain.fill, chain.setOpt, chain.dstOf, List.size_toArray, List.length_cons, List.length_nil, List.getElem?_toArray, List.getElem?_cons_succ, List.getElem?_cons_zero, List.setIfInBounds_toArray, List.set_cons_succ, List.set_cons_zero]; exact rfl
  case h0c => exact HB.out.extend (Chg.refl _ _).drew
  case stc =>
   refine AllFrom.cons (fun x vs u hF hm hb hd K' hK' => ?sc0) (AllFrom.cons (fun x vs u hF hm hb hd K' hK' => ?sc1) (AllFrom.cons (fun x vs u hF hm hb hd K' hK' => ?sc2) (AllFrom.cons (fun x vs u hF hm hb hd K' hK' => ?sc3) (AllFrom.cons (fun x vs u hF hm hb hd K' hK' => ?sc4) (AllFrom.cons (fun x vs u hF hm hb hd K' hK' => ?sc5) (AllFrom.cons (fun x vs u hF hm hb hd K' hK' => ?sc6) (AllFrom.nil)))))))
   case sc0 =>
    have HF := Z_ hF; clear hd hm hb hF; go_simp; exact hK'.out _ _ _ rfl trivial ⟨rfl, HF.out⟩
   case sc2 =>
    have HF := Z_ hF; clear hd hm hb hF; go_simp; exact hK'.out _ _ _ rfl trivial ⟨rfl, HF.out⟩
   case sc5 =>
    have HF := Z_ hF; clear hd hm hb hF; go_simp; exact hK'.out _ _ _ rfl trivial ⟨rfl, HF.out⟩
   case sc1 =>
    have y0 := hd 0 (by decide) (by kernel_rfl); replace y0 : x 41 = .pointer (some ⟨N, 2, none⟩) := y0; have hc := hF.cell (by have := hb 1 _ (by decide) rfl (by kernel_rfl); simp only [List.length_cons, List.length_nil]; omega); have HF := Z_ hF; clear hd hm hb hF; go_simp; exact hK'.out _ _ _ (by simp only [y0]; rfl) trivial ⟨rfl, HF.out⟩
   case sc3 =>
    have y0 := hd 2 (by decide) (by kernel_rfl); replace y0 : x 43 = .pointer (some ⟨S, 0, none⟩) := y0; obtain rfl := List.eq_nil_of_length_eq_zero (hm 0 (by kernel_rfl)); have HF := Z_ (show Bld _ _ _ _ _ _ _ _ _ _ _ _ _ _ from hF); clear hd hm hb hF; have HCA := Z_ (label_any HF.out.pr); go_simp; refine HCA.out.mono ?_
    rintro e u2 hr; obtain ⟨hC, ⟨lb, hp, rfl⟩ | ⟨sn, lx, v, hp, rfl, ⟨rfl, hb0, hb1⟩, hP⟩⟩ := hr.cases (pLabel_ne _)
    ·have HE := Z_ (Out.bind_bad HT.out hp)
     have HC := Z_ (HF.out.chg.then hC); clear hr hp hC hK' HCA; go_wp2_with fail
     exact ⟨rfl, Pst.fails HC.out HE.out⟩
    ·exact hK'.out _ _ _ (by simp only [y0]; rfl) trivial (num_label HF.out hC hp hb0 hb1 hP)
   case sc4 =>
    obtain ⟨vb, rfl⟩ : ∃ vb, vs = [vb] := by match vs, hm 1 (by kernel_rfl) with | [vb], _ => exact ⟨_, rfl⟩
    have hcl : ∃ b, vb = .int .i64 b ∧ 0 ≤ b ∧ b ≤ 1 := by obtain ⟨b, l', _, e, h0, h1, hs, _⟩ := hF; exact ⟨b, e, h0, h1⟩
    obtain ⟨b, rfl, hb0, hb1⟩ := hcl; have y0 := hd 3 (by decide) (by kernel_rfl) 44 (by kernel_rfl); replace y0 : x 44 = .int .i64 (b) := y0; have y1 := hd 1 (by decide) (by kernel_rfl); replace y1 : x 42 = .int .i64 (pub) := y1; obtain ⟨hw8, hw9⟩ := wrap_few (n := pub + b) (by have := HPUB.out; omega) (by have := HPUB.out; omega); have HF := Z_ hF; clear hd hm hb hF; go_simp; exact hK'.out _ _ _ (by simp only [y0, y1]; rfl) trivial (by first | exact num_step (r := []) HF.out (by simp) rfl)
   case sc6 =>
    obtain ⟨vb, v0, rfl⟩ : ∃ vb v0, vs = [vb, v0] := by match vs, hm 2 (by kernel_rfl) with | [vb, v0], _ => exact ⟨_, _, rfl⟩
    have hcl : ∃ b, vb = .int .i64 b ∧ 0 ≤ b ∧ b ≤ 1 ∧ v0 = .int .i64 (pub + b) := by obtain ⟨b, l', _, e, h0, h1, hs, _⟩ := hF; exact ⟨b, e, h0, h1, by have := hs 0 (by simp) (by simp); simpa using this⟩
    obtain ⟨b, rfl, hb0, hb1, rfl⟩ := hcl; have y0 := hd 5 (by decide) (by kernel_rfl); replace y0 : x 46 = .pointer (some ⟨N, 2, none⟩) := y0; have y1 := hd 4 (by decide) (by kernel_rfl) 45 (by kernel_rfl); replace y1 : x 45 = .int .i64 (pub + b) := y1; have hBB : ∃ l', Bld W w u S E A N l' 4 s (pub) row row acc := by obtain ⟨b', l', _, _, _, _, _, h⟩ := hF; exact ⟨l', h⟩
    obtain ⟨l', hBB⟩ := hBB; have hc := hBB.nd.cell 2; have hf := hBB.nd.frozen 2; have hl := hBB.lt; simp at hc
    clear hBB; have HF := Z_ hF; clear hd hm hb hF; go_simp; exact hK'.out _ _ undef (by simp only [y0, y1]; rfl) trivial (num_store (r := [.int .i64 (pub + b)]) (z := undef) HF.out (by simp) rfl)
  case finc =>
   intro x vs w9 hl hF hk; obtain ⟨vb, v0, vz, rfl⟩ : ∃ vb v0 vz, vs = [vb, v0, vz] := by match vs, hl with | [vb, v0, vz], _ => exact ⟨_, _, _, rfl⟩
   obtain ⟨bc, lnc, hT1, -, hb0, hb1, -, hB9⟩ := hF; replace hB9 : Bld W w w9 S E A N lnc 4 s (pub + bc) row row acc := hB9; clear hk hl; replace HT := Z_ (Out.bind_got HT.out hT1.out); have HBC := Z_ (And.intro hb0 hb1); replace HB := Z_ hB9; replace HAT := Z_ HB.out.at; clear hT1 hB9 hb0 hb1; have HH := Z_ (have_any HAT.out.pr sGives); have HLE := Z_ (fun (h : isB lnc [sGives] = true) => synm.tail_lt h); generalize isB lnc [sGives] = R at *; go_wp2_with fail
   refine HH.out.mono ?_
   rintro e u7 ⟨rfl, hC, hP⟩; cases R with
   | false =>
    replace hP : PrAt W u7 S E lnc := by simpa using hP
    have HT0 := HT.out; clear HT; simp only [Bool.false_eq_true, ↓reduceIte] at HT0; have HT := Z_ HT0; clear HT0; replace HB := Z_ (HB.out.call hC hP (Nat.le_refl _)); replace HAT := Z_ HB.out.at; clear hC hP HH HLE; go_upto_region 11 with (fail)
    refine wp_region_weave [3, 4, 5, 7] (fun i v _ => v = ([.pointer (some ⟨N, 3, none⟩), row, .pointer (some ⟨S, 0, none⟩), undef, undef, undef, .pointer (some ⟨N, 3, none⟩), undef] : List Value).getD i undef) (PushF W w S E A N lnc 4 s (pub + bc) row acc (prs mm .block lnc)) (fun _ _ => True) (frame := ?frad) (fun x => ?hfad) mixed (by kernel_rfl) (by kernel_rfl) (fun _ _ _ _ h _ => h) ?h0d ?std ?find
    case hfad =>
     simp only [chain.frameOf, chain.fill, chain.setOpt, chain.dstOf, List.size_toArray, List.length_cons, List.length_nil, List.getElem?_toArray, List.getElem?_cons_succ, List.getElem?_cons_zero, List.setIfInBounds_toArray, List.set_cons_succ, List.set_cons_zero]; exact rfl
    case h0d => exact HB.out.extend (Chg.refl _ _).drew
    case std =>
     refine AllFrom.cons (fun x vs u hF hm hb hd K' hK' => ?sd0) (AllFrom.cons (fun x vs u hF hm hb hd K' hK' => ?sd1) (AllFrom.cons (fun x vs u hF hm hb hd K' hK' => ?sd2) (AllFrom.cons (fun x vs u hF hm hb hd K' hK' => ?sd3) (AllFrom.cons (fun x vs u hF hm hb hd K' hK' => ?sd4) (AllFrom.cons (fun x vs u hF hm hb hd K' hK' => ?sd5) (AllFrom.cons (fun x vs u hF hm hb hd K' hK' => ?sd6) (AllFrom.cons (fun x vs u hF hm hb hd K' hK' => ?sd7) (AllFrom.nil))))))))
     case sd0 =>
      have HF := Z_ hF; clear hd hm hb hF; go_simp; exact hK'.out _ _ _ rfl trivial ⟨rfl, HF.out⟩
     case sd1 =>
      have y0 := hd 0 (by decide) (by kernel_rfl); replace y0 : x 57 = .pointer (some ⟨N, 3, none⟩) := y0; have hc := hF.cell (by have := hb 2 _ (by decide) rfl (by kernel_rfl); omega); have HF := Z_ hF; clear hd hm hb hF; go_simp; exact hK'.out _ _ _ (by simp only [y0]; rfl) trivial ⟨rfl, HF.out⟩
     case sd2 =>
      have HF := Z_ hF; clear hd hm hb hF; go_simp; exact hK'.out _ _ _ rfl trivial ⟨rfl, HF.out⟩
     case sd6 =>
      have HF := Z_ hF; clear hd hm hb hF; go_simp; exact hK'.out _ _ _ rfl trivial ⟨rfl, HF.out⟩
     case sd3 =>
      have y0 := hd 2 (by decide) (by kernel_rfl); replace y0 : x 59 = .pointer (some ⟨S, 0, none⟩) := y0; obtain rfl := List.eq_nil_of_length_eq_zero (hm 0 (by kernel_rfl)); have HF := Z_ (show Bld _ _ _ _ _ _ _ _ _ _ _ _ _ _ from hF); clear hd hm hb hF; have HCA := Z_ (ih mm hmm .block _ _ HF.out.pr HM.out rfl trivial (Out.bind_ne HT.out HNE.out)); go_simp; refine HCA.out.mono ?_
      rintro e u2 hr; obtain ⟨hC, ⟨lb, hp, rfl⟩ | ⟨xn, ln, v, hp, rfl, hv, hP⟩⟩ := hr.cases (Out.bind_ne HT.out HNE.out)
      ·have HE := Z_ (Out.bind_bad HT.out hp)
       have HC := Z_ (HF.out.chg.then hC); clear hr hp hC hK' HCA; go_wp2_with fail
       exact ⟨rfl, Pst.fails HC.out HE.out⟩
      ·exact hK'.out _ _ _ (by simp only [y0]; rfl) trivial (push_call HF.out hC hp hv hP (synm.prs_lt _ _ _ _ _ hp))
     case sd4 =>
      obtain ⟨v0, rfl⟩ : ∃ v0, vs = [v0] := by match vs, hm 1 (by kernel_rfl) with | [v0], _ => exact ⟨_, rfl⟩
      have y0 := hd 3 (by decide) (by kernel_rfl) 60 (by kernel_rfl); replace y0 : x 60 = v0 := y0; have hcl : ∃ a b c d, v0 = .agg #[a, b, c, d] := by obtain ⟨xn, ln, _, _, _, hx⟩ := hF; obtain ⟨a, b, c, d, h, _⟩ := nd_cells hx; exact ⟨a, b, c, d, h⟩
      obtain ⟨a0, b0, c0, d0, rfl⟩ := hcl; have HF := Z_ hF; clear hd hm hb hF; go_simp; exact hK'.out _ _ _ (by simp only [y0]; rfl) trivial (push_slice HF.out rfl)
     case sd5 =>
      obtain ⟨v0, v1, rfl⟩ : ∃ v0 v1, vs = [v0, v1] := by match vs, hm 2 (by kernel_rfl) with | [v0, v1], _ => exact ⟨_, _, rfl⟩
      have y0 := hd 1 (by decide) (by kernel_rfl); replace y0 : x 58 = row := y0; have y1 := hd 4 (by decide) (by kernel_rfl) 61 (by kernel_rfl); replace y1 : x 61 = v1 := y1; have hF2 := hF; obtain ⟨xn, ln, hT1, hBB, hfew, hx, gg, rfl, hgb, hgr⟩ := hF2; obtain ⟨us, hu1, ho, hu3⟩ := hBB.grow.ex; have hlt := hBB.lt; obtain ⟨i0_, hi_, hz0, hz1, hz2⟩ := info_split info_node; refine wp_append_lies _ _ _ 22 rfl (N + 1) 24 i0_ (.agg #[.int .i64 0, .string ⟨#[]⟩, .int .i64 0, .slice none 0 0]) 4 56 Tryz.underlying22 hi_ hz0 hz1 hz2 rfl (by decide) row acc.length (us.flatMap fun u => u.cells.toList) y0 ho ⟨gg, 0, none⟩ 1 1 v0.cells.toList y1 (by rw [Array.length_toList, nd_size hx]) ?_ (by obtain ⟨a, b, c, d, e, e2, p1, p2, p3, p4⟩ := nd_cells hx; rw [e2]; intro q hq; simp at hq; rcases hq with rfl | rfl | rfl | rfl <;> assumption) (by decide) (by unfold maxLen; omega) (by omega) (by omega) u.heap.size rfl ?_
      ·intro j q hj; have e : (⟨gg, 0, none⟩ : Addr).add j = ⟨gg, j, none⟩ := (by unfold Addr.add; split <;> simp_all); rw [e, hgb.cell]; simpa using hj
      ·intro g9 c9 w9 ho9 hg9 ha9 hl9
       exact hK'.out _ _ _ rfl trivial (push_append hF hu1 hu3 ho9 hg9 ha9)
     case sd7 =>
      obtain ⟨v0, v1, v2, rfl⟩ : ∃ v0 v1 v2, vs = [v0, v1, v2] := by match vs, hm 3 (by kernel_rfl) with | [v0, v1, v2], _ => exact ⟨_, _, _, rfl⟩
      have y0 := hd 6 (by decide) (by kernel_rfl); replace y0 : x 63 = .pointer (some ⟨N, 3, none⟩) := y0; have y1 := hd 5 (by decide) (by kernel_rfl) 62 (by kernel_rfl); replace y1 : x 62 = v2 := y1; have hF2 := hF; obtain ⟨xn, ln, hT1, hBB, gg, cc, rfl⟩ := hF2; have hc := hBB.nd.cell 3; have hf := hBB.nd.frozen 3; have hl := hBB.lt; simp at hc
      have HF := Z_ hF; clear hd hm hb hF hBB hT1; go_simp; exact hK'.out _ _ undef (by simp only [y0, y1]; rfl) trivial (push_store HF.out)
    case find =>
     intro x vs w9 hl hF hk; obtain ⟨v0, v1, v2, v3, rfl⟩ : ∃ v0 v1 v2 v3, vs = [v0, v1, v2, v3] := by match vs, hl with | [v0, v1, v2, v3], _ => exact ⟨_, _, _, _, rfl⟩
     obtain ⟨xn, ln, hT1, hB9⟩ := hF; clear hk hl; replace HT := Z_ (Out.bind_got HT.out hT1.out); replace HB := Z_ hB9; replace HAT := Z_ HB.out.at; clear hT1 hB9; obtain ⟨ra, rn, rc, hrow⟩ := HB.out.slice3
     first | subst hrow | clear hrow
     have c0 := HB.out.nd.cell 0; have c1 := HB.out.nd.cell 1; have c2 := HB.out.nd.cell 2; have c3 := HB.out.nd.cell 3; have r0 := HB.out.res.cell; have rf := HB.out.res.frozen; have rl := HB.out.res.lt; unfold zeroNd at r0; simp at c0 c1 c2 c3
     go_wp2_with fail
     refine ends_at rfl rfl rfl ((((HB.out.res.set 0 _).set 1 _).set 2 _).set 3 _) Tryz.underlying24 rfl (by kernel_rfl) ?_
     exact HB.out.ret (by have := HSZ.out; omega) (HT.out.symm) _ _ _ _
   | true =>
    replace hP : PrAt W u7 S E lnc.tail := by simpa using hP
    have HT0 := HT.out; clear HT; simp only [↓reduceIte] at HT0; have HT := Z_ HT0; clear HT0; replace HB := Z_ (HB.out.call hC hP (by have := HLE.out rfl; omega)); replace HAT := Z_ HB.out.at; clear hC hP HH HLE; go_upto_region 10 with (fail)
    refine wp_region_weave [3, 4, 5, 6, 8] (fun i v _ => v = ([.pointer (some ⟨N, 2, none⟩), .int .i64 (pub + bc), .pointer (some ⟨S, 0, none⟩), undef, undef, undef, undef, .pointer (some ⟨N, 2, none⟩), undef] : List Value).getD i undef) (NumF W w S E A N lnc.tail 4 s (pub + bc) row acc [fun b => 4 * b, fun b => 4 + 4 * b, fun b => pub + bc + (4 + 4 * b)]) (fun _ _ => True) (frame := ?frae) (fun x => ?hfae) mixed (by kernel_rfl) (by kernel_rfl) (fun _ _ _ _ h _ => h) ?h0e ?ste ?fine
    case hfae =>
     simp only [chain.frameOf, chain.fill, chain.setOpt, chain.dstOf, List.size_toArray, List.length_cons, List.length_nil, List.getElem?_toArray, List.getElem?_cons_succ, List.getElem?_cons_zero, List.setIfInBounds_toArray, List.set_cons_succ, List.set_cons_zero]; exact rfl
    case h0e => exact HB.out.extend (Chg.refl _ _).drew
    case ste =>
     refine AllFrom.cons (fun x vs u hF hm hb hd K' hK' => ?se0) (AllFrom.cons (fun x vs u hF hm hb hd K' hK' => ?se1) (AllFrom.cons (fun x vs u hF hm hb hd K' hK' => ?se2) (AllFrom.cons (fun x vs u hF hm hb hd K' hK' => ?se3) (AllFrom.cons (fun x vs u hF hm hb hd K' hK' => ?se4) (AllFrom.cons (fun x vs u hF hm hb hd K' hK' => ?se5) (AllFrom.cons (fun x vs u hF hm hb hd K' hK' => ?se6) (AllFrom.cons (fun x vs u hF hm hb hd K' hK' => ?se7) (AllFrom.cons (fun x vs u hF hm hb hd K' hK' => ?se8) (AllFrom.nil)))))))))
     case se0 =>
      have HF := Z_ hF; clear hd hm hb hF; go_simp; exact hK'.out _ _ _ rfl trivial ⟨rfl, HF.out⟩
     case se2 =>
      have HF := Z_ hF; clear hd hm hb hF; go_simp; exact hK'.out _ _ _ rfl trivial ⟨rfl, HF.out⟩
     case se7 =>
      have HF := Z_ hF; clear hd hm hb hF; go_simp; exact hK'.out _ _ _ rfl trivial ⟨rfl, HF.out⟩
     case se1 =>
      have y0 := hd 0 (by decide) (by kernel_rfl); replace y0 : x 49 = .pointer (some ⟨N, 2, none⟩) := y0; have hc := hF.cell (by have := hb 3 _ (by decide) rfl (by kernel_rfl); simp only [List.length_cons, List.length_nil]; omega); have HF := Z_ hF; clear hd hm hb hF; go_simp; exact hK'.out _ _ _ (by simp only [y0]; rfl) trivial ⟨rfl, HF.out⟩
     case se3 =>
      have y0 := hd 2 (by decide) (by kernel_rfl); replace y0 : x 51 = .pointer (some ⟨S, 0, none⟩) := y0; obtain rfl := List.eq_nil_of_length_eq_zero (hm 0 (by kernel_rfl)); have HF := Z_ (show Bld _ _ _ _ _ _ _ _ _ _ _ _ _ _ from hF); clear hd hm hb hF; have HCA := Z_ (label_any HF.out.pr); go_simp; refine HCA.out.mono ?_
      rintro e u2 hr; obtain ⟨hC, ⟨lb, hp, rfl⟩ | ⟨sn, lx, v, hp, rfl, ⟨rfl, hb0, hb1⟩, hP⟩⟩ := hr.cases (pLabel_ne _)
      ·have HE := Z_ (Out.bind_bad HT.out hp)
       have HC := Z_ (HF.out.chg.then hC); clear hr hp hC hK' HCA; go_wp2_with fail
       exact ⟨rfl, Pst.fails HC.out HE.out⟩
      ·exact hK'.out _ _ _ (by simp only [y0]; rfl) trivial (num_label HF.out hC hp hb0 hb1 hP)
     case se4 =>
      obtain ⟨vb, rfl⟩ : ∃ vb, vs = [vb] := by match vs, hm 1 (by kernel_rfl) with | [vb], _ => exact ⟨_, rfl⟩
      have hcl : ∃ b, vb = .int .i64 b ∧ 0 ≤ b ∧ b ≤ 1 := by obtain ⟨b, l', _, e, h0, h1, hs, _⟩ := hF; exact ⟨b, e, h0, h1⟩
      obtain ⟨b, rfl, hb0, hb1⟩ := hcl; have y0 := hd 3 (by decide) (by kernel_rfl) 52 (by kernel_rfl); replace y0 : x 52 = .int .i64 (b) := y0; obtain ⟨hw8, hw9⟩ := wrap_few (n := 4 * b) (by have := HPUB.out; have := HBC.out; omega) (by have := HPUB.out; have := HBC.out; omega); have HF := Z_ hF; clear hd hm hb hF; go_simp; exact hK'.out _ _ _ (by simp only [y0]; rfl) trivial (by first | exact num_step (r := []) HF.out (by simp) rfl)
     case se5 =>
      obtain ⟨vb, v0, rfl⟩ : ∃ vb v0, vs = [vb, v0] := by match vs, hm 2 (by kernel_rfl) with | [vb, v0], _ => exact ⟨_, _, rfl⟩
      have hcl : ∃ b, vb = .int .i64 b ∧ 0 ≤ b ∧ b ≤ 1 ∧ v0 = .int .i64 (4 * b) := by obtain ⟨b, l', _, e, h0, h1, hs, _⟩ := hF; exact ⟨b, e, h0, h1, by have := hs 0 (by simp) (by simp); simpa using this⟩
      obtain ⟨b, rfl, hb0, hb1, rfl⟩ := hcl; have y0 := hd 4 (by decide) (by kernel_rfl) 53 (by kernel_rfl); replace y0 : x 53 = .int .i64 (4 * b) := y0; obtain ⟨hw8, hw9⟩ := wrap_few (n := 4 + 4 * b) (by have := HPUB.out; have := HBC.out; omega) (by have := HPUB.out; have := HBC.out; omega); have HF := Z_ hF; clear hd hm hb hF; go_simp; exact hK'.out _ _ _ (by simp only [y0]; rfl) trivial (by first | exact num_step (r := [.int .i64 (4 * b)]) HF.out (by simp) rfl)
     case se6 =>
      obtain ⟨vb, v0, v1, rfl⟩ : ∃ vb v0 v1, vs = [vb, v0, v1] := by match vs, hm 3 (by kernel_rfl) with | [vb, v0, v1], _ => exact ⟨_, _, _, rfl⟩
      have hcl : ∃ b, vb = .int .i64 b ∧ 0 ≤ b ∧ b ≤ 1 ∧ v0 = .int .i64 (4 * b) ∧ v1 = .int .i64 (4 + 4 * b) := by obtain ⟨b, l', _, e, h0, h1, hs, _⟩ := hF; exact ⟨b, e, h0, h1, by have := hs 0 (by simp) (by simp); simpa using this, by have := hs 1 (by simp) (by simp); simpa using this⟩
      obtain ⟨b, rfl, hb0, hb1, rfl, rfl⟩ := hcl; have y0 := hd 5 (by decide) (by kernel_rfl) 54 (by kernel_rfl); replace y0 : x 54 = .int .i64 (4 + 4 * b) := y0; have y1 := hd 1 (by decide) (by kernel_rfl); replace y1 : x 50 = .int .i64 (pub + bc) := y1; obtain ⟨hw8, hw9⟩ := wrap_few (n := pub + bc + (4 + 4 * b)) (by have := HPUB.out; have := HBC.out; omega) (by have := HPUB.out; have := HBC.out; omega); have HF := Z_ hF; clear hd hm hb hF; go_simp; exact hK'.out _ _ _ (by simp only [y0, y1]; rfl) trivial (by first | exact num_step (r := [.int .i64 (4 * b), .int .i64 (4 + 4 * b)]) HF.out (by simp) rfl)
     case se8 =>
      obtain ⟨vb, v0, v1, v2, rfl⟩ : ∃ vb v0 v1 v2, vs = [vb, v0, v1, v2] := by match vs, hm 4 (by kernel_rfl) with | [vb, v0, v1, v2], _ => exact ⟨_, _, _, _, rfl⟩
      have hcl : ∃ b, vb = .int .i64 b ∧ 0 ≤ b ∧ b ≤ 1 ∧ v0 = .int .i64 (4 * b) ∧ v1 = .int .i64 (4 + 4 * b) ∧ v2 = .int .i64 (pub + bc + (4 + 4 * b)) := by obtain ⟨b, l', _, e, h0, h1, hs, _⟩ := hF; exact ⟨b, e, h0, h1, by have := hs 0 (by simp) (by simp); simpa using this, by have := hs 1 (by simp) (by simp); simpa using this, by have := hs 2 (by simp) (by simp); simpa using this⟩
      obtain ⟨b, rfl, hb0, hb1, rfl, rfl, rfl⟩ := hcl; have y0 := hd 7 (by decide) (by kernel_rfl); replace y0 : x 56 = .pointer (some ⟨N, 2, none⟩) := y0; have y1 := hd 6 (by decide) (by kernel_rfl) 55 (by kernel_rfl); replace y1 : x 55 = .int .i64 (pub + bc + (4 + 4 * b)) := y1; have hBB : ∃ l', Bld W w u S E A N l' 4 s (pub + bc) row row acc := by obtain ⟨b', l', _, _, _, _, _, h⟩ := hF; exact ⟨l', h⟩
      obtain ⟨l', hBB⟩ := hBB; have hc := hBB.nd.cell 2; have hf := hBB.nd.frozen 2; have hl := hBB.lt; simp at hc
      clear hBB; have HF := Z_ hF; clear hd hm hb hF; go_simp; exact hK'.out _ _ undef (by simp only [y0, y1]; rfl) trivial (num_store (r := [.int .i64 (4 * b), .int .i64 (4 + 4 * b), .int .i64 (pub + bc + (4 + 4 * b))]) (z := undef) HF.out (by simp) rfl)
    case fine =>
     intro x vs w9 hl hF hk; obtain ⟨vb, v0, v1, v2, vz, rfl⟩ : ∃ vb v0 v1 v2 vz, vs = [vb, v0, v1, v2, vz] := by match vs, hl with | [vb, v0, v1, v2, vz], _ => exact ⟨_, _, _, _, _, rfl⟩
     obtain ⟨be, lne, hT1, -, hb0, hb1, -, hB9⟩ := hF; replace hB9 : Bld W w w9 S E A N lne 4 s (pub + bc + (4 + 4 * be)) row row acc := hB9; clear hk hl; replace HT := Z_ (Out.bind_got HT.out hT1.out); replace HB := Z_ hB9; replace HAT := Z_ HB.out.at; clear hT1 hB9 hb0 hb1; go_upto_region 11 with (fail)
     refine wp_region_weave [3, 4, 5, 7] (fun i v _ => v = ([.pointer (some ⟨N, 3, none⟩), row, .pointer (some ⟨S, 0, none⟩), undef, undef, undef, .pointer (some ⟨N, 3, none⟩), undef] : List Value).getD i undef) (PushF W w S E A N lne 4 s (pub + bc + (4 + 4 * be)) row acc (prs mm .block lne)) (fun _ _ => True) (frame := ?fraf) (fun x => ?hfaf) mixed (by kernel_rfl) (by kernel_rfl) (fun _ _ _ _ h _ => h) ?h0f ?stf ?finf
     case hfaf =>
      simp only [chain.frameOf, chain.fill, chain.setOpt, chain.dstOf, List.size_toArray, List.length_cons, List.length_nil, List.getElem?_toArray, List.getElem?_cons_succ, List.getElem?_cons_zero, List.setIfInBounds_toArray, List.set_cons_succ, List.set_cons_zero]; exact rfl
     case h0f => exact HB.out.extend (Chg.refl _ _).drew
     case stf =>
      refine AllFrom.cons (fun x vs u hF hm hb hd K' hK' => ?sf0) (AllFrom.cons (fun x vs u hF hm hb hd K' hK' => ?sf1) (AllFrom.cons (fun x vs u hF hm hb hd K' hK' => ?sf2) (AllFrom.cons (fun x vs u hF hm hb hd K' hK' => ?sf3) (AllFrom.cons (fun x vs u hF hm hb hd K' hK' => ?sf4) (AllFrom.cons (fun x vs u hF hm hb hd K' hK' => ?sf5) (AllFrom.cons (fun x vs u hF hm hb hd K' hK' => ?sf6) (AllFrom.cons (fun x vs u hF hm hb hd K' hK' => ?sf7) (AllFrom.nil))))))))
      case sf0 =>
       have HF := Z_ hF; clear hd hm hb hF; go_simp; exact hK'.out _ _ _ rfl trivial ⟨rfl, HF.out⟩
      case sf1 =>
       have y0 := hd 0 (by decide) (by kernel_rfl); replace y0 : x 57 = .pointer (some ⟨N, 3, none⟩) := y0; have hc := hF.cell (by have := hb 2 _ (by decide) rfl (by kernel_rfl); omega); have HF := Z_ hF; clear hd hm hb hF; go_simp; exact hK'.out _ _ _ (by simp only [y0]; rfl) trivial ⟨rfl, HF.out⟩
      case sf2 =>
       have HF := Z_ hF; clear hd hm hb hF; go_simp; exact hK'.out _ _ _ rfl trivial ⟨rfl, HF.out⟩
      case sf6 =>
       have HF := Z_ hF; clear hd hm hb hF; go_simp; exact hK'.out _ _ _ rfl trivial ⟨rfl, HF.out⟩
      case sf3 =>
       have y0 := hd 2 (by decide) (by kernel_rfl); replace y0 : x 59 = .pointer (some ⟨S, 0, none⟩) := y0; obtain rfl := List.eq_nil_of_length_eq_zero (hm 0 (by kernel_rfl)); have HF := Z_ (show Bld _ _ _ _ _ _ _ _ _ _ _ _ _ _ from hF); clear hd hm hb hF; have HCA := Z_ (ih mm hmm .block _ _ HF.out.pr HM.out rfl trivial (Out.bind_ne HT.out HNE.out)); go_simp; refine HCA.out.mono ?_
       rintro e u2 hr; obtain ⟨hC, ⟨lb, hp, rfl⟩ | ⟨xn, ln, v, hp, rfl, hv, hP⟩⟩ := hr.cases (Out.bind_ne HT.out HNE.out)
       ·have HE := Z_ (Out.bind_bad HT.out hp)
        have HC := Z_ (HF.out.chg.then hC); clear hr hp hC hK' HCA; go_wp2_with fail
        exact ⟨rfl, Pst.fails HC.out HE.out⟩
       ·exact hK'.out _ _ _ (by simp only [y0]; rfl) trivial (push_call HF.out hC hp hv hP (synm.prs_lt _ _ _ _ _ hp))
      case sf4 =>
       obtain ⟨v0, rfl⟩ : ∃ v0, vs = [v0] := by match vs, hm 1 (by kernel_rfl) with | [v0], _ => exact ⟨_, rfl⟩
       have y0 := hd 3 (by decide) (by kernel_rfl) 60 (by kernel_rfl); replace y0 : x 60 = v0 := y0; have hcl : ∃ a b c d, v0 = .agg #[a, b, c, d] := by obtain ⟨xn, ln, _, _, _, hx⟩ := hF; obtain ⟨a, b, c, d, h, _⟩ := nd_cells hx; exact ⟨a, b, c, d, h⟩
       obtain ⟨a0, b0, c0, d0, rfl⟩ := hcl; have HF := Z_ hF; clear hd hm hb hF; go_simp; exact hK'.out _ _ _ (by simp only [y0]; rfl) trivial (push_slice HF.out rfl)
      case sf5 =>
       obtain ⟨v0, v1, rfl⟩ : ∃ v0 v1, vs = [v0, v1] := by match vs, hm 2 (by kernel_rfl) with | [v0, v1], _ => exact ⟨_, _, rfl⟩
       have y0 := hd 1 (by decide) (by kernel_rfl); replace y0 : x 58 = row := y0; have y1 := hd 4 (by decide) (by kernel_rfl) 61 (by kernel_rfl); replace y1 : x 61 = v1 := y1; have hF2 := hF; obtain ⟨xn, ln, hT1, hBB, hfew, hx, gg, rfl, hgb, hgr⟩ := hF2; obtain ⟨us, hu1, ho, hu3⟩ := hBB.grow.ex; have hlt := hBB.lt; obtain ⟨i0_, hi_, hz0, hz1, hz2⟩ := info_split info_node; refine wp_append_lies _ _ _ 22 rfl (N + 1) 24 i0_ (.agg #[.int .i64 0, .string ⟨#[]⟩, .int .i64 0, .slice none 0 0]) 4 56 Tryz.underlying22 hi_ hz0 hz1 hz2 rfl (by decide) row acc.length (us.flatMap fun u => u.cells.toList) y0 ho ⟨gg, 0, none⟩ 1 1 v0.cells.toList y1 (by rw [Array.length_toList, nd_size hx]) ?_ (by obtain ⟨a, b, c, d, e, e2, p1, p2, p3, p4⟩ := nd_cells hx; rw [e2]; intro q hq; simp at hq; rcases hq with rfl | rfl | rfl | rfl <;> assumption) (by decide) (by unfold maxLen; omega) (by omega) (by omega) u.heap.size rfl ?_
       ·intro j q hj; have e : (⟨gg, 0, none⟩ : Addr).add j = ⟨gg, j, none⟩ := (by unfold Addr.add; split <;> simp_all); rw [e, hgb.cell]; simpa using hj
       ·intro g9 c9 w9 ho9 hg9 ha9 hl9
        exact hK'.out _ _ _ rfl trivial (push_append hF hu1 hu3 ho9 hg9 ha9)
      case sf7 =>
       obtain ⟨v0, v1, v2, rfl⟩ : ∃ v0 v1 v2, vs = [v0, v1, v2] := by match vs, hm 3 (by kernel_rfl) with | [v0, v1, v2], _ => exact ⟨_, _, _, rfl⟩
       have y0 := hd 6 (by decide) (by kernel_rfl); replace y0 : x 63 = .pointer (some ⟨N, 3, none⟩) := y0; have y1 := hd 5 (by decide) (by kernel_rfl) 62 (by kernel_rfl); replace y1 : x 62 = v2 := y1; have hF2 := hF; obtain ⟨xn, ln, hT1, hBB, gg, cc, rfl⟩ := hF2; have hc := hBB.nd.cell 3; have hf := hBB.nd.frozen 3; have hl := hBB.lt; simp at hc
       have HF := Z_ hF; clear hd hm hb hF hBB hT1; go_simp; exact hK'.out _ _ undef (by simp only [y0, y1]; rfl) trivial (push_store HF.out)
     case finf =>
      intro x vs w9 hl hF hk; obtain ⟨v0, v1, v2, v3, rfl⟩ : ∃ v0 v1 v2 v3, vs = [v0, v1, v2, v3] := by match vs, hl with | [v0, v1, v2, v3], _ => exact ⟨_, _, _, _, rfl⟩
      obtain ⟨xn, ln, hT1, hB9⟩ := hF; clear hk hl; replace HT := Z_ (Out.bind_got HT.out hT1.out); replace HB := Z_ hB9; replace HAT := Z_ HB.out.at; clear hT1 hB9; obtain ⟨ra, rn, rc, hrow⟩ := HB.out.slice3
      first | subst hrow | clear hrow
      have c0 := HB.out.nd.cell 0; have c1 := HB.out.nd.cell 1; have c2 := HB.out.nd.cell 2; have c3 := HB.out.nd.cell 3; have r0 := HB.out.res.cell; have rf := HB.out.res.frozen; have rl := HB.out.res.lt; unfold zeroNd at r0; simp at c0 c1 c2 c3
      go_wp2_with fail
      refine ends_at rfl rfl rfl ((((HB.out.res.set 0 _).set 1 _).set 2 _).set 3 _) Tryz.underlying24 rfl (by kernel_rfl) ?_
      exact HB.out.ret (by have := HSZ.out; omega) (HT.out.symm) _ _ _ _
end synw
end Go.Proofs.YtpcihajmcejliacGreatDoor
