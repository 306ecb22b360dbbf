/- The walk of the program's parser: a block. The walk of the program's parser: modules. The walk of syntax.Parse: its recover, its two results. The parser in plain Lean: enough fuel always; and what scanning a text gives. What scanning a text gives the parser. -/
import Derived.Deep.LoopGhost
import Derived.Defers
import Derived.Recover
import Derived.Test.YtpcihajmcejliacGreatDoorName
import Derived.Test.YtpcihajmcejliacGreatDoorSynC
import Derived.Test.YtpcihajmcejliacGreatDoorSyn7
import Derived.Test.YtpcihajmcejliacGreatDoorSyn3
namespace Go.Proofs.YtpcihajmcejliacGreatDoor
open Go.RowKit
namespace synw
set_option maxRecDepth 100000 in
set_option maxHeartbeats 4000000 in
theorem block_any {n : Nat} (ih : ∀ m, m ≤ n → Good m) {W w : World} {S E : Nat} {l : List Tk} (h : PrAt W w S E l) (hm : MaxVar W) (hne : prs (n + 1) .block l ≠ .out) :
  Calls Tryz.prog 229 #[.pointer (some ⟨S, 0, none⟩)] w (Pst (VN w.heap.size) W w S E (prs (n + 1) .block l)) := by
 obtain ⟨T, hT⟩ : ∃ T, prs (n + 1) .block l = T := ⟨_, rfl⟩; rw [hT] at hne ⊢; simp only [prs] at hT; have HT := Z_ hT; have HNE := Z_ hne; have HM := Z_ hm; have hSl := h.lt; have h1 := h.alloc (.cells zeroNd 24); have h2 := h1.alloc (.cells #[.string sCurl] 9); have HN := Z_ (need_any h2 (w.heap.size + 1) 1 sCurl ((Blk.made2 w (.cells zeroNd 24) #[.string sCurl] 9).cell 0)); have HC0 : Hid (Chg (fun i => i = S) w ((w.alloc (.cells zeroNd 24)).alloc (.cells #[.string sCurl] 9))) := Z_ (((Chg.refl _ _).alloc _).alloc _); have HA0 := Z_ ((Blk.made w zeroNd 24).alloc (.cells #[.string sCurl] 9)); obtain ⟨A, hA⟩ : ∃ A, w.heap.size = A := ⟨_, rfl⟩; rw [hA] at HN HA0; clear h h1 h2 hm hne hT; unfold zeroNd at HN HC0 HA0; go_enter Tryz.func229, Tryz.ntmps229
 go_wp2_with fail
 refine HN.out.mono ?_
 rintro e w1 hr; obtain ⟨hC1, ⟨l1, hp, rfl⟩ | ⟨x1, l1, v1, hp, rfl, rfl, hP1⟩⟩ := hr.cases (pNeed_ne _ _)
 ·have HF := Z_ (Out.bind_bad HT.out hp)
  have HC1 := Z_ (HC0.out.then hC1); clear hr hp hC1; go_wp2_with fail
  exact ⟨rfl, Pst.fails HC1.out HF.out⟩
 ·have HT1 := Z_ (Out.bind_got HT.out hp)
  have HC1 := Z_ (HC0.out.then hC1); have HA1 := Z_ (HA0.out.chg hC1 (by omega)); have HP1 := Z_ hP1; clear hr hp hC1 hP1 HN HC0 HA0 HT; go_wp2_with fail
  refine (node_any _ _ _ _ _ _ _).mono ?_
  rintro e w2 ⟨rfl, hE2⟩; have hP2 := (HP1.out.extend hE2).alloc (.cells #[.int .i64 6, .string ⟨#[]⟩, .int .i64 0, .slice none 0 0] 24); have hAw := (HA1.out.ext hE2).lt; have hB2 := Bld.start (kind := 6) (text := ⟨#[]⟩) (num := 0) hP2 ((HC1.out.ext hE2).alloc _) ((HA1.out.ext hE2).alloc _) (Blk.made w2 _ _) hSl (by omega) hAw (pr_len hP2); have HB2 := Z_ hB2; clear hP2 hE2 hB2 HA1 HP1 HC1; obtain ⟨N, hN⟩ : ∃ N, w2.heap.size = N := ⟨_, rfl⟩; rw [hN] at HB2; go_wp2_with fail
  generalize w2.alloc (.cells #[.int .i64 6, .string ⟨#[]⟩, .int .i64 0, .slice none 0 0] 24) = w3 at *; go_loopg [] n (fun k wr => ∃ l acc row, k ≤ n ∧ Hid (prs k (.stats acc) l = T) ∧ Hid (Bld W w wr S E A N l 6 ⟨#[]⟩ 0 row row acc))
  case atStart => exact ⟨l1, [], .slice none 0 0, Nat.le_refl _, HT1, HB2⟩
  case round =>
   obtain ⟨lr, acc, row, hkn, hTr, HB⟩ := hrel; cases gk with
   | zero => exact absurd hTr.out.symm HNE.out
   | succ m =>
    have hTr2 := hTr.out; simp only [prs] at hTr2; have HTR := Z_ hTr2; have HH := Z_ (have_any HB.out.pr sLruc); have HLE := Z_ (fun (h : isB lr [sLruc] = true) => synm.tail_lt h); generalize isB lr [sLruc] = R at *; clear hTr hTr2; go_wp2_with fail
    refine HH.out.mono ?_
    rintro e w4 ⟨rfl, hC4, hP4⟩; cases R with
    | true =>
     have HB4 := Z_ (HB.out.call hC4 (by simpa using hP4 : PrAt W w4 S E lr.tail) (by have := HLE.out rfl; omega)); have HT4 := Z_ (show T = .got (.mk 6 ⟨#[]⟩ 0 acc) lr.tail by have := HTR.out; rw [if_pos rfl] at this; exact this.symm); clear hC4 hP4 HB; obtain ⟨ra, rc, rfl⟩ := HB4.out.slice; have c0 := HB4.out.nd.cell 0; have c1 := HB4.out.nd.cell 1; have c2 := HB4.out.nd.cell 2; have c3 := HB4.out.nd.cell 3; have r0 := HB4.out.res.cell; have rf := HB4.out.res.frozen; have rl := HB4.out.res.lt; unfold zeroNd at r0; simp at c0 c1 c2 c3
     go_wp2_with fail
     refine ends_at rfl rfl rfl ((((HB4.out.res.set 0 _).set 1 _).set 2 _).set 3 _) Tryz.underlying24 rfl (by kernel_rfl) ?_
     exact HB4.out.ret (by decide) HT4.out _ _ _ _
    | false =>
     have HB := Z_ (HB.out.call hC4 (by simpa using hP4 : PrAt W w4 S E lr) (Nat.le_refl _)); have HT4 := Z_ (show (prs m .stat lr).bind (fun x l => prs m (.stats (acc ++ [x])) l) = T by have := HTR.out; simpa using this); clear hC4 hP4 HTR HLE HH; go_upto_region 4 with (fail)
     refine wp_region_weave [3, 4, 5, 7] (fun i v _ => v = ([.pointer (some ⟨N, 3, none⟩), row, .pointer (some ⟨S, 0, none⟩), undef, undef, undef, .pointer (some ⟨N, 3, none⟩), undef] : List Value).getD i undef) (PushF W w S E A N lr 6 ⟨#[]⟩ 0 row acc (prs m .stat lr)) (fun _ _ => True) (frame := ?fraa) (fun x => ?hfaa) mixed (by kernel_rfl) (by kernel_rfl) (fun _ _ _ _ h _ => h) ?h0a ?sta ?fina
     case hfaa =>
      simp only [chain.frameOf, chain.fill, chain.setOpt, chain.dstOf, List.size_toArray, List.length_cons, List.length_nil, List.getElem?_toArray, List.getElem?_cons_succ, List.getElem?_cons_zero, List.setIfInBounds_toArray, List.set_cons_succ, List.set_cons_zero]; exact rfl
     case h0a => exact HB.out.extend (Chg.refl _ _).drew
     case sta =>
      refine AllFrom.cons (fun x vs u hF hm hb hd K' hK' => ?sa0) (AllFrom.cons (fun x vs u hF hm hb hd K' hK' => ?sa1) (AllFrom.cons (fun x vs u hF hm hb hd K' hK' => ?sa2) (AllFrom.cons (fun x vs u hF hm hb hd K' hK' => ?sa3) (AllFrom.cons (fun x vs u hF hm hb hd K' hK' => ?sa4) (AllFrom.cons (fun x vs u hF hm hb hd K' hK' => ?sa5) (AllFrom.cons (fun x vs u hF hm hb hd K' hK' => ?sa6) (AllFrom.cons (fun x vs u hF hm hb hd K' hK' => ?sa7) (AllFrom.nil))))))))
      case sa0 =>
       have HF := Z_ hF; clear hd hm hb hF; go_simp; exact hK'.out _ _ _ rfl trivial ⟨rfl, HF.out⟩
      case sa1 =>
       have y0 := hd 0 (by decide) (by kernel_rfl); replace y0 : x 11 = .pointer (some ⟨N, 3, none⟩) := y0; have hc := hF.cell (by have := hb 2 _ (by decide) rfl (by kernel_rfl); omega); have HF := Z_ hF; clear hd hm hb hF; go_simp; exact hK'.out _ _ _ (by simp only [y0]; rfl) trivial ⟨rfl, HF.out⟩
      case sa2 =>
       have HF := Z_ hF; clear hd hm hb hF; go_simp; exact hK'.out _ _ _ rfl trivial ⟨rfl, HF.out⟩
      case sa6 =>
       have HF := Z_ hF; clear hd hm hb hF; go_simp; exact hK'.out _ _ _ rfl trivial ⟨rfl, HF.out⟩
      case sa3 =>
       have y0 := hd 2 (by decide) (by kernel_rfl); replace y0 : x 13 = .pointer (some ⟨S, 0, none⟩) := y0; obtain rfl := List.eq_nil_of_length_eq_zero (hm 0 (by kernel_rfl)); have HF := Z_ (show Bld _ _ _ _ _ _ _ _ _ _ _ _ _ _ from hF); clear hd hm hb hF; have HCA := Z_ (ih m (by omega) .stat _ _ HF.out.pr HM.out rfl trivial (Out.bind_ne HT4.out HNE.out)); go_simp; refine HCA.out.mono ?_
       rintro e u2 hr; obtain ⟨hC, ⟨lb, hp, rfl⟩ | ⟨xn, ln, v, hp, rfl, hv, hP⟩⟩ := hr.cases (Out.bind_ne HT4.out HNE.out)
       ·have HE := Z_ (Out.bind_bad HT4.out hp)
        have HC := Z_ (HF.out.chg.then hC); clear hr hp hC hK' HCA; go_wp2_with fail
        exact ⟨rfl, Pst.fails HC.out HE.out⟩
       ·exact hK'.out _ _ _ (by simp only [y0]; rfl) trivial (push_call HF.out hC hp hv hP (synm.prs_lt _ _ _ _ _ hp))
      case sa4 =>
       obtain ⟨v0, rfl⟩ : ∃ v0, vs = [v0] := by match vs, hm 1 (by kernel_rfl) with | [v0], _ => exact ⟨_, rfl⟩
       have y0 := hd 3 (by decide) (by kernel_rfl) 14 (by kernel_rfl); replace y0 : x 14 = v0 := y0; have hcl : ∃ a b c d, v0 = .agg #[a, b, c, d] := by obtain ⟨xn, ln, _, _, _, hx⟩ := hF; obtain ⟨a, b, c, d, h, _⟩ := nd_cells hx; exact ⟨a, b, c, d, h⟩
       obtain ⟨a0, b0, c0, d0, rfl⟩ := hcl; have HF := Z_ hF; clear hd hm hb hF; go_simp; exact hK'.out _ _ _ (by simp only [y0]; rfl) trivial (push_slice HF.out rfl)
      case sa5 =>
       obtain ⟨v0, v1, rfl⟩ : ∃ v0 v1, vs = [v0, v1] := by match vs, hm 2 (by kernel_rfl) with | [v0, v1], _ => exact ⟨_, _, rfl⟩
       have y0 := hd 1 (by decide) (by kernel_rfl); replace y0 : x 12 = row := y0; have y1 := hd 4 (by decide) (by kernel_rfl) 15 (by kernel_rfl); replace y1 : x 15 = v1 := y1; have hF2 := hF; obtain ⟨xn, ln, hT1, hBB, hfew, hx, gg, rfl, hgb, hgr⟩ := hF2; obtain ⟨us, hu1, ho, hu3⟩ := hBB.grow.ex; have hlt := hBB.lt; obtain ⟨i0_, hi_, hz0, hz1, hz2⟩ := info_split info_node; refine wp_append_lies _ _ _ 22 rfl (N + 1) 24 i0_ (.agg #[.int .i64 0, .string ⟨#[]⟩, .int .i64 0, .slice none 0 0]) 4 56 Tryz.underlying22 hi_ hz0 hz1 hz2 rfl (by decide) row acc.length (us.flatMap fun u => u.cells.toList) y0 ho ⟨gg, 0, none⟩ 1 1 v0.cells.toList y1 (by rw [Array.length_toList, nd_size hx]) ?_ (by obtain ⟨a, b, c, d, e, e2, p1, p2, p3, p4⟩ := nd_cells hx; rw [e2]; intro q hq; simp at hq; rcases hq with rfl | rfl | rfl | rfl <;> assumption) (by decide) (by unfold maxLen; omega) (by omega) (by omega) u.heap.size rfl ?_
       ·intro j q hj; have e : (⟨gg, 0, none⟩ : Addr).add j = ⟨gg, j, none⟩ := (by unfold Addr.add; split <;> simp_all); rw [e, hgb.cell]; simpa using hj
       ·intro g9 c9 w9 ho9 hg9 ha9 hl9
        exact hK'.out _ _ _ rfl trivial (push_append hF hu1 hu3 ho9 hg9 ha9)
      case sa7 =>
       obtain ⟨v0, v1, v2, rfl⟩ : ∃ v0 v1 v2, vs = [v0, v1, v2] := by match vs, hm 3 (by kernel_rfl) with | [v0, v1, v2], _ => exact ⟨_, _, _, rfl⟩
       have y0 := hd 6 (by decide) (by kernel_rfl); replace y0 : x 17 = .pointer (some ⟨N, 3, none⟩) := y0; have y1 := hd 5 (by decide) (by kernel_rfl) 16 (by kernel_rfl); replace y1 : x 16 = v2 := y1; have hF2 := hF; obtain ⟨xn, ln, hT1, hBB, gg, cc, rfl⟩ := hF2; have hc := hBB.nd.cell 3; have hf := hBB.nd.frozen 3; have hl := hBB.lt; simp at hc
       have HF := Z_ hF; clear hd hm hb hF hBB hT1; go_simp; exact hK'.out _ _ undef (by simp only [y0, y1]; rfl) trivial (push_store HF.out)
     case fina =>
      intro x vs w9 hl hF hk; obtain ⟨v0, v1, v2, v3, rfl⟩ : ∃ v0 v1 v2 v3, vs = [v0, v1, v2, v3] := by match vs, hl with | [v0, v1, v2, v3], _ => exact ⟨_, _, _, _, rfl⟩
      obtain ⟨xn, ln, hT1, hB9⟩ := hF; clear hk hl; have HT9 := Z_ (Out.bind_got HT4.out hT1.out); have HB9 := Z_ hB9; clear hT1 hB9; go_wp2_with fail
      go_roundg m
      case rel => exact ⟨ln, acc ++ [xn], v2, by omega, HT9, HB9⟩
      case measure => omega
end synw
end Go.Proofs.YtpcihajmcejliacGreatDoor
namespace Go.Proofs.YtpcihajmcejliacGreatDoor
open Go.RowKit
namespace synw
set_option maxRecDepth 100000 in
set_option maxHeartbeats 4000000 in
theorem module_any {n : Nat} (ih : ∀ m, m ≤ n → Good m) {W w : World} {S E : Nat} {l : List Tk} (h : PrAt W w S E l) (hm : MaxVar W) (hne : prs (n + 1) (.module) l ≠ .out) :
  Calls Tryz.prog 48 #[.pointer (some ⟨S, 0, none⟩)] w (Pst (VN w.heap.size) W w S E (prs (n + 1) (.module) l)) := by
 obtain ⟨T, hT⟩ : ∃ T, prs (n + 1) (.module) l = T := ⟨_, rfl⟩; rw [hT] at hne ⊢; simp only [prs] at hT; have HT := Z_ hT; have HNE := Z_ hne; have HM := Z_ hm; have HAT : Hid (At W w (w.alloc (.cells #[.int .i64 0, .string ⟨#[]⟩, .int .i64 0, .slice none 0 0] 24)) S E w.heap.size l) := Z_ (At.start h); obtain ⟨A, hA⟩ : ∃ A, w.heap.size = A := ⟨_, rfl⟩; rw [hA] at HAT; have hSA : S < A := by have := h.lt; omega
 clear h hm hne hT; go_enter Tryz.func48, Tryz.ntmps48
 go_upto_region 1 with (fail)
 generalize w.alloc (.cells #[.int .i64 0, .string ⟨#[]⟩, .int .i64 0, .slice none 0 0] 24) = u0 at *; have HN := Z_ (need_any (HAT.out.pr.alloc (.cells #[.string sModule] 9)) u0.heap.size 1 sModule ((Blk.made u0 #[.string sModule] 9).cell 0)); have hEx := (Chg.refl (fun _ => False) u0).alloc (.cells #[.string sModule] 9); replace HAT := Z_ (HAT.out.extend hEx); clear hEx; go_wp2_with fail
 refine HN.out.mono ?_
 rintro e u1 hr; obtain ⟨hC, ⟨lb, hp, rfl⟩ | ⟨_, l1, _, hp, rfl, rfl, hP⟩⟩ := hr.cases (pNeed_ne _ _)
 ·have HF := Z_ (Out.bind_bad HT.out hp)
  have HC := Z_ (HAT.out.chg.then hC); clear hr hp hC; go_wp2_with fail
  exact ⟨rfl, Pst.fails HC.out HF.out⟩
 replace HT := Z_ (Out.bind_got HT.out hp); replace HAT := Z_ (HAT.out.call hC hP); clear hr hp hC hP HN; have HN := Z_ (name_any HAT.out.pr HM.out); go_wp2_with fail
 refine HN.out.mono ?_
 rintro e u2 hr; obtain ⟨hC, ⟨lb, hp, rfl⟩ | ⟨s2, l2, v, hp, rfl, ⟨rfl, hs⟩, hP⟩⟩ := hr.cases (pName_ne _)
 ·have HF := Z_ (Out.bind_bad HT.out hp)
  have HC := Z_ (HAT.out.chg.then hC); clear hr hp hC; go_wp2_with fail
  exact ⟨rfl, Pst.fails HC.out HF.out⟩
 replace HT := Z_ (Out.bind_got HT.out hp); replace HAT := Z_ (HAT.out.call hC hP); have HSZ := Z_ hs; clear hr hp hC hP HN; clear hs; generalize s2 = s at *; go_wp2_with fail
 refine (node_any _ _ _ _ _ _ _).mono ?_
 rintro e u3 ⟨rfl, hE⟩; replace HAT := Z_ (HAT.out.extend hE); have HB := Z_ ((HAT.out.alloc (.cells #[.int .i64 (1), .string s, .int .i64 (0), .slice none 0 0] 24)).bld (Blk.made u3 _ _) HAT.out.lt); obtain ⟨N, hN⟩ : ∃ N, u3.heap.size = N := ⟨_, rfl⟩; rw [hN] at HB; clear hE HAT; go_upto_region 3 with (fail)
 generalize u3.alloc (.cells #[.int .i64 (1), .string s, .int .i64 (0), .slice none 0 0] 24) = v0 at *; have HAT := Z_ HB.out.at; have HN := Z_ (need_any (HAT.out.pr.alloc (.cells #[.string sSemi] 9)) v0.heap.size 1 sSemi ((Blk.made v0 #[.string sSemi] 9).cell 0)); have hEx := (Chg.refl (fun _ => False) v0).alloc (.cells #[.string sSemi] 9); replace HB := Z_ (HB.out.extend hEx); replace HAT := Z_ HB.out.at; clear hEx; go_wp2_with fail
 refine HN.out.mono ?_
 rintro e u4 hr; obtain ⟨hC, ⟨lb, hp, rfl⟩ | ⟨_, l4, _, hp, rfl, rfl, hP⟩⟩ := hr.cases (pNeed_ne _ _)
 ·have HF := Z_ (Out.bind_bad HT.out hp)
  have HC := Z_ (HAT.out.chg.then hC); clear hr hp hC; go_wp2_with fail
  exact ⟨rfl, Pst.fails HC.out HF.out⟩
 replace HT := Z_ (Out.bind_got HT.out hp); replace HB := Z_ (HB.out.call hC hP (by have := synm.need_lt hp; omega)); replace HAT := Z_ HB.out.at; clear hr hp hC hP HN; go_wp2_with fail
 go_loopg [] n (fun k wr => ∃ l2 acc row, k ≤ n ∧ Hid (prs k (.imports s acc) l2 = T) ∧ Hid (Bld W w wr S E A N l2 1 s 0 row row acc))
 case atStart => exact ⟨l4, [], .slice none 0 0, Nat.le_refl _, HT, HB⟩
 clear HT HB HAT
 case round =>
  obtain ⟨lr, acc, row, hkn, HT, HB⟩ := hrel; cases gk with
  | zero => exact absurd HT.out.symm HNE.out
  | succ m =>
   have HT0 := HT.out; clear HT; simp only [prs] at HT0; have HT := Z_ HT0; clear HT0; have HAT := Z_ HB.out.at; have HH := Z_ (have_any HAT.out.pr sImport); have HLE := Z_ (fun (h : isB lr [sImport] = true) => synm.tail_lt h); generalize isB lr [sImport] = R at *; go_wp2_with fail
   refine HH.out.mono ?_
   rintro e u5 ⟨rfl, hC, hP⟩; cases R with
   | false =>
    replace hP : PrAt W u5 S E lr := by simpa using hP
    have HT0 := HT.out; clear HT; simp only [Bool.false_eq_true, ↓reduceIte] at HT0; have HT := Z_ HT0; clear HT0; replace HB := Z_ (HB.out.call hC hP (Nat.le_refl _)); replace HAT := Z_ HB.out.at; clear hC hP HH HLE; go_wp2_with fail
    go_loopg [] m (fun k wr => ∃ l2 acc row, k ≤ m ∧ Hid (prs k (.decls s acc) l2 = T) ∧ Hid (Bld W w wr S E A N l2 1 s 0 row row acc))
    case atStart => exact ⟨lr, acc, row, Nat.le_refl _, HT, HB⟩
    clear HT HB HAT
    case round =>
     obtain ⟨ld, acc, row, hkm, HT, HB⟩ := hrel; cases gk with
     | zero => exact absurd HT.out.symm HNE.out
     | succ j =>
      have HT0 := HT.out; clear HT; simp only [prs] at HT0; have HT := Z_ HT0; clear HT0; have HAT := Z_ HB.out.at; obtain ⟨ta, tn, tc, tk, hSB, hlk, htn⟩ := pr_blk HAT.out.pr; have h0 := hSB.cell 0; have h1 := hSB.cell 1; simp at h0 h1
      have hSf := hSB.frozen; have hSl := hSB.lt; cases ld with
      | nil =>
       have HT0 := HT.out; clear HT; simp only [List.length_nil, ↓reduceIte] at HT0; have HT := Z_ HT0; clear HT0; simp only [List.length_nil, Nat.add_zero] at hlk; subst hlk; clear hSB; go_wp2_with fail
       go_quiet (fail)
       replace HB := Z_ (HB.out.extend ((Chg.refl _ _).drewN nq)); generalize World.drewN _ nq = w6 at *; clear h0 h1 hSf hSl; obtain ⟨ra, rn, rc, hrow⟩ := HB.out.slice3
       first | subst hrow | clear hrow
       have c0 := HB.out.nd.cell 0; have c1 := HB.out.nd.cell 1; have c2 := HB.out.nd.cell 2; have c3 := HB.out.nd.cell 3; have r0 := HB.out.res.cell; have rf := HB.out.res.frozen; have rl := HB.out.res.lt; unfold zeroNd at r0; simp at c0 c1 c2 c3
       go_wp2_with fail
       refine ends_at rfl rfl rfl ((((HB.out.res.set 0 _).set 1 _).set 2 _).set 3 _) Tryz.underlying24 rfl (by kernel_rfl) ?_
       exact HB.out.ret (by have := HSZ.out; omega) (HT.out.symm) _ _ _ _
      | cons t r =>
       have HT0 := HT.out; clear HT; simp only [List.length_cons, Nat.add_one_ne_zero, ↓reduceIte] at HT0; have HT := Z_ HT0; clear HT0; have hkn3 : (tk : Int) < (tn : Int) := by simp only [List.length_cons] at hlk; omega
       clear hSB; go_wp2_with fail
       go_quiet (fail)
       replace HB := Z_ (HB.out.extend ((Chg.refl _ _).drewN nq)); generalize World.drewN _ nq = w6 at *; replace HAT := Z_ HB.out.at; clear h0 h1 hSf hSl; go_upto_region 8 with (fail)
       refine wp_region_weave [3, 4, 5, 7] (fun i v _ => v = ([.pointer (some ⟨N, 3, none⟩), row, .pointer (some ⟨S, 0, none⟩), undef, undef, undef, .pointer (some ⟨N, 3, none⟩), undef] : List Value).getD i undef) (PushF W w S E A N (t :: r) 1 s 0 row acc (prs j .decl (t :: r))) (fun _ _ => True) (frame := ?frab) (fun x => ?hfab) mixed (by kernel_rfl) (by kernel_rfl) (fun _ _ _ _ h _ => h) ?h0b ?stb ?finb
       case hfab =>
        simp only [chain.frameOf, chain.fill, chain.setOpt, chain.dstOf, List.size_toArray, List.length_cons, List.length_nil, List.getElem?_toArray, List.getElem?_cons_succ, List.getElem?_cons_zero, List.setIfInBounds_toArray, List.set_cons_succ, List.set_cons_zero]; exact rfl
       case h0b => exact HB.out.extend (Chg.refl _ _).drew
       case stb =>
        refine AllFrom.cons (fun x vs u hF hm hb hd K' hK' => ?sb0) (AllFrom.cons (fun x vs u hF hm hb hd K' hK' => ?sb1) (AllFrom.cons (fun x vs u hF hm hb hd K' hK' => ?sb2) (AllFrom.cons (fun x vs u hF hm hb hd K' hK' => ?sb3) (AllFrom.cons (fun x vs u hF hm hb hd K' hK' => ?sb4) (AllFrom.cons (fun x vs u hF hm hb hd K' hK' => ?sb5) (AllFrom.cons (fun x vs u hF hm hb hd K' hK' => ?sb6) (AllFrom.cons (fun x vs u hF hm hb hd K' hK' => ?sb7) (AllFrom.nil))))))))
        case sb0 =>
         have HF := Z_ hF; clear hd hm hb hF; go_simp; exact hK'.out _ _ _ rfl trivial ⟨rfl, HF.out⟩
        case sb1 =>
         have y0 := hd 0 (by decide) (by kernel_rfl); replace y0 : x 36 = .pointer (some ⟨N, 3, none⟩) := y0; have hc := hF.cell (by have := hb 2 _ (by decide) rfl (by kernel_rfl); omega); have HF := Z_ hF; clear hd hm hb hF; go_simp; exact hK'.out _ _ _ (by simp only [y0]; rfl) trivial ⟨rfl, HF.out⟩
        case sb2 =>
         have HF := Z_ hF; clear hd hm hb hF; go_simp; exact hK'.out _ _ _ rfl trivial ⟨rfl, HF.out⟩
        case sb6 =>
         have HF := Z_ hF; clear hd hm hb hF; go_simp; exact hK'.out _ _ _ rfl trivial ⟨rfl, HF.out⟩
        case sb3 =>
         have y0 := hd 2 (by decide) (by kernel_rfl); replace y0 : x 38 = .pointer (some ⟨S, 0, none⟩) := y0; obtain rfl := List.eq_nil_of_length_eq_zero (hm 0 (by kernel_rfl)); have HF := Z_ (show Bld _ _ _ _ _ _ _ _ _ _ _ _ _ _ from hF); clear hd hm hb hF; have HCA := Z_ (ih j (by omega) .decl _ _ HF.out.pr HM.out rfl trivial (Out.bind_ne HT.out HNE.out)); go_simp; refine HCA.out.mono ?_
         rintro e u2 hr; obtain ⟨hC, ⟨lb, hp, rfl⟩ | ⟨xn, ln, v, hp, rfl, hv, hP⟩⟩ := hr.cases (Out.bind_ne HT.out HNE.out)
         ·have HE := Z_ (Out.bind_bad HT.out hp)
          have HC := Z_ (HF.out.chg.then hC); clear hr hp hC hK' HCA; go_wp2_with fail
          exact ⟨rfl, Pst.fails HC.out HE.out⟩
         ·exact hK'.out _ _ _ (by simp only [y0]; rfl) trivial (push_call HF.out hC hp hv hP (synm.prs_lt _ _ _ _ _ hp))
        case sb4 =>
         obtain ⟨v0, rfl⟩ : ∃ v0, vs = [v0] := by match vs, hm 1 (by kernel_rfl) with | [v0], _ => exact ⟨_, rfl⟩
         have y0 := hd 3 (by decide) (by kernel_rfl) 39 (by kernel_rfl); replace y0 : x 39 = v0 := y0; have hcl : ∃ a b c d, v0 = .agg #[a, b, c, d] := by obtain ⟨xn, ln, _, _, _, hx⟩ := hF; obtain ⟨a, b, c, d, h, _⟩ := nd_cells hx; exact ⟨a, b, c, d, h⟩
         obtain ⟨a0, b0, c0, d0, rfl⟩ := hcl; have HF := Z_ hF; clear hd hm hb hF; go_simp; exact hK'.out _ _ _ (by simp only [y0]; rfl) trivial (push_slice HF.out rfl)
        case sb5 =>
         obtain ⟨v0, v1, rfl⟩ : ∃ v0 v1, vs = [v0, v1] := by match vs, hm 2 (by kernel_rfl) with | [v0, v1], _ => exact ⟨_, _, rfl⟩
         have y0 := hd 1 (by decide) (by kernel_rfl); replace y0 : x 37 = row := y0; have y1 := hd 4 (by decide) (by kernel_rfl) 40 (by kernel_rfl); replace y1 : x 40 = v1 := y1; have hF2 := hF; obtain ⟨xn, ln, hT1, hBB, hfew, hx, gg, rfl, hgb, hgr⟩ := hF2; obtain ⟨us, hu1, ho, hu3⟩ := hBB.grow.ex; have hlt := hBB.lt; obtain ⟨i0_, hi_, hz0, hz1, hz2⟩ := info_split info_node; refine wp_append_lies _ _ _ 22 rfl (N + 1) 24 i0_ (.agg #[.int .i64 0, .string ⟨#[]⟩, .int .i64 0, .slice none 0 0]) 4 56 Tryz.underlying22 hi_ hz0 hz1 hz2 rfl (by decide) row acc.length (us.flatMap fun u => u.cells.toList) y0 ho ⟨gg, 0, none⟩ 1 1 v0.cells.toList y1 (by rw [Array.length_toList, nd_size hx]) ?_ (by obtain ⟨a, b, c, d, e, e2, p1, p2, p3, p4⟩ := nd_cells hx; rw [e2]; intro q hq; simp at hq; rcases hq with rfl | rfl | rfl | rfl <;> assumption) (by decide) (by unfold maxLen; omega) (by omega) (by omega) u.heap.size rfl ?_
         ·intro j q hj; have e : (⟨gg, 0, none⟩ : Addr).add j = ⟨gg, j, none⟩ := (by unfold Addr.add; split <;> simp_all); rw [e, hgb.cell]; simpa using hj
         ·intro g9 c9 w9 ho9 hg9 ha9 hl9
          exact hK'.out _ _ _ rfl trivial (push_append hF hu1 hu3 ho9 hg9 ha9)
        case sb7 =>
         obtain ⟨v0, v1, v2, rfl⟩ : ∃ v0 v1 v2, vs = [v0, v1, v2] := by match vs, hm 3 (by kernel_rfl) with | [v0, v1, v2], _ => exact ⟨_, _, _, rfl⟩
         have y0 := hd 6 (by decide) (by kernel_rfl); replace y0 : x 42 = .pointer (some ⟨N, 3, none⟩) := y0; have y1 := hd 5 (by decide) (by kernel_rfl) 41 (by kernel_rfl); replace y1 : x 41 = v2 := y1; have hF2 := hF; obtain ⟨xn, ln, hT1, hBB, gg, cc, rfl⟩ := hF2; have hc := hBB.nd.cell 3; have hf := hBB.nd.frozen 3; have hl := hBB.lt; simp at hc
         have HF := Z_ hF; clear hd hm hb hF hBB hT1; go_simp; exact hK'.out _ _ undef (by simp only [y0, y1]; rfl) trivial (push_store HF.out)
       case finb =>
        intro x vs w9 hl hF hk; obtain ⟨v0, v1, v2, v3, rfl⟩ : ∃ v0 v1 v2 v3, vs = [v0, v1, v2, v3] := by match vs, hl with | [v0, v1, v2, v3], _ => exact ⟨_, _, _, _, rfl⟩
        obtain ⟨xn, ln, hT1, hB9⟩ := hF; clear hk hl; replace HT := Z_ (Out.bind_got HT.out hT1.out); replace HB := Z_ hB9; clear hT1 hB9; go_wp2_with fail
        go_roundg j
        case rel => exact ⟨ln, acc ++ [xn], v2, by omega, HT, HB⟩
        case measure => omega
   | true =>
    replace hP : PrAt W u5 S E lr.tail := by simpa using hP
    have HT0 := HT.out; clear HT; simp only [↓reduceIte] at HT0; have HT := Z_ HT0; clear HT0; replace HB := Z_ (HB.out.call hC hP (by have := HLE.out rfl; omega)); replace HAT := Z_ HB.out.at; clear hC hP HH HLE; go_upto_region 5 with (fail)
    refine wp_region_weave [3, 4, 5, 6, 8] (fun i v _ => v = ([.pointer (some ⟨N, 3, none⟩), row, .pointer (some ⟨S, 0, none⟩), undef, undef, undef, undef, .pointer (some ⟨N, 3, none⟩), undef] : List Value).getD i undef) (PushN W w S E A N lr.tail 1 s 0 row acc 2 0) (fun _ _ => True) (frame := ?fraa) (fun x => ?hfaa) mixed (by kernel_rfl) (by kernel_rfl) (fun _ _ _ _ h _ => h) ?h0a ?sta ?fina
    case hfaa =>
     simp only [chain.frameOf, chain.fill, chain.setOpt, chain.dstOf, List.size_toArray, List.length_cons, List.length_nil, List.getElem?_toArray, List.getElem?_cons_succ, List.getElem?_cons_zero, List.setIfInBounds_toArray, List.set_cons_succ, List.set_cons_zero]; exact rfl
    case h0a => exact HB.out.extend (Chg.refl _ _).drew
    case sta =>
     refine AllFrom.cons (fun x vs u hF hm hb hd K' hK' => ?sa0) (AllFrom.cons (fun x vs u hF hm hb hd K' hK' => ?sa1) (AllFrom.cons (fun x vs u hF hm hb hd K' hK' => ?sa2) (AllFrom.cons (fun x vs u hF hm hb hd K' hK' => ?sa3) (AllFrom.cons (fun x vs u hF hm hb hd K' hK' => ?sa4) (AllFrom.cons (fun x vs u hF hm hb hd K' hK' => ?sa5) (AllFrom.cons (fun x vs u hF hm hb hd K' hK' => ?sa6) (AllFrom.cons (fun x vs u hF hm hb hd K' hK' => ?sa7) (AllFrom.cons (fun x vs u hF hm hb hd K' hK' => ?sa8) (AllFrom.nil)))))))))
     case sa0 =>
      have HF := Z_ hF; clear hd hm hb hF; go_simp; exact hK'.out _ _ _ rfl trivial ⟨rfl, HF.out⟩
     case sa2 =>
      have HF := Z_ hF; clear hd hm hb hF; go_simp; exact hK'.out _ _ _ rfl trivial ⟨rfl, HF.out⟩
     case sa7 =>
      have HF := Z_ hF; clear hd hm hb hF; go_simp; exact hK'.out _ _ _ rfl trivial ⟨rfl, HF.out⟩
     case sa1 =>
      have y0 := hd 0 (by decide) (by kernel_rfl); replace y0 : x 15 = .pointer (some ⟨N, 3, none⟩) := y0; have hc := hF.cell (by have := hb 3 _ (by decide) rfl (by kernel_rfl); omega); have HF := Z_ hF; clear hd hm hb hF; go_simp; exact hK'.out _ _ _ (by simp only [y0]; rfl) trivial ⟨rfl, HF.out⟩
     case sa3 =>
      have y0 := hd 2 (by decide) (by kernel_rfl); replace y0 : x 17 = .pointer (some ⟨S, 0, none⟩) := y0; obtain rfl := List.eq_nil_of_length_eq_zero (hm 0 (by kernel_rfl)); have HF := Z_ (show Bld _ _ _ _ _ _ _ _ _ _ _ _ _ _ from hF); clear hd hm hb hF; have HCA := Z_ (name_any HF.out.pr HM.out); go_simp; refine HCA.out.mono ?_
      rintro e u2 hr; obtain ⟨hC, ⟨lb, hp, rfl⟩ | ⟨sn, lx, v, hp, rfl, ⟨rfl, hsz⟩, hP⟩⟩ := hr.cases (pName_ne _)
      ·have HE := Z_ (Out.bind_bad HT.out hp)
       have HC := Z_ (HF.out.chg.then hC); clear hr hp hC hK' HCA; go_wp2_with fail
       exact ⟨rfl, Pst.fails HC.out HE.out⟩
      ·exact hK'.out _ _ _ (by simp only [y0]; rfl) trivial (pushn_name HF.out hC hp hsz hP)
     case sa4 =>
      obtain ⟨v0, rfl⟩ : ∃ v0, vs = [v0] := by match vs, hm 1 (by kernel_rfl) with | [v0], _ => exact ⟨_, rfl⟩
      have y0 := hd 3 (by decide) (by kernel_rfl) 18 (by kernel_rfl); replace y0 : x 18 = v0 := y0; have hcl : ∃ s, v0 = .string s := by obtain ⟨s, ln, _, e, _⟩ := hF; exact ⟨s, e⟩
      obtain ⟨sn, rfl⟩ := hcl; have HF := Z_ hF; clear hd hm hb hF; go_simp; refine (node_any _ _ _ _ _ _ _).mono ?_
      rintro e u2 ⟨rfl, hE⟩; exact hK'.out _ _ _ (by simp only [y0]; rfl) trivial (pushn_node HF.out hE)
     case sa5 =>
      obtain ⟨vz, v0, rfl⟩ : ∃ vz v0, vs = [vz, v0] := by match vs, hm 2 (by kernel_rfl) with | [vz, v0], _ => exact ⟨_, _, rfl⟩
      have y0 := hd 4 (by decide) (by kernel_rfl) 19 (by kernel_rfl); replace y0 : x 19 = v0 := y0; replace hF : PushF W w S E A N lr.tail 1 s 0 row acc (pLeaf 2 0 lr.tail) [v0] u := hF; have hcl : ∃ a b c d, v0 = .agg #[a, b, c, d] := by obtain ⟨xn, ln, _, _, _, hx⟩ := hF; obtain ⟨a, b, c, d, h, _⟩ := nd_cells hx; exact ⟨a, b, c, d, h⟩
      obtain ⟨a0, b0, c0, d0, rfl⟩ := hcl; have HF := Z_ hF; clear hd hm hb hF; go_simp; exact hK'.out _ _ _ (by simp only [y0]; rfl) trivial (push_slice HF.out rfl)
     case sa6 =>
      obtain ⟨vz, v0, v1, rfl⟩ : ∃ vz v0 v1, vs = [vz, v0, v1] := by match vs, hm 3 (by kernel_rfl) with | [vz, v0, v1], _ => exact ⟨_, _, _, rfl⟩
      have y0 := hd 1 (by decide) (by kernel_rfl); replace y0 : x 16 = row := y0; have y1 := hd 5 (by decide) (by kernel_rfl) 20 (by kernel_rfl); replace y1 : x 20 = v1 := y1; replace hF : PushF W w S E A N lr.tail 1 s 0 row acc (pLeaf 2 0 lr.tail) [v0, v1] u := hF; have hF2 := hF; obtain ⟨xn, ln, hT1, hBB, hfew, hx, gg, rfl, hgb, hgr⟩ := hF2; obtain ⟨us, hu1, ho, hu3⟩ := hBB.grow.ex; have hlt := hBB.lt; obtain ⟨i0_, hi_, hz0, hz1, hz2⟩ := info_split info_node; refine wp_append_lies _ _ _ 22 rfl (N + 1) 24 i0_ (.agg #[.int .i64 0, .string ⟨#[]⟩, .int .i64 0, .slice none 0 0]) 4 56 Tryz.underlying22 hi_ hz0 hz1 hz2 rfl (by decide) row acc.length (us.flatMap fun u => u.cells.toList) y0 ho ⟨gg, 0, none⟩ 1 1 v0.cells.toList y1 (by rw [Array.length_toList, nd_size hx]) ?_ (by obtain ⟨a, b, c, d, e, e2, p1, p2, p3, p4⟩ := nd_cells hx; rw [e2]; intro q hq; simp at hq; rcases hq with rfl | rfl | rfl | rfl <;> assumption) (by decide) (by unfold maxLen; omega) (by omega) (by omega) u.heap.size rfl ?_
      ·intro j q hj; have e : (⟨gg, 0, none⟩ : Addr).add j = ⟨gg, j, none⟩ := (by unfold Addr.add; split <;> simp_all); rw [e, hgb.cell]; simpa using hj
      ·intro g9 c9 w9 ho9 hg9 ha9 hl9
       exact hK'.out _ _ _ rfl trivial (push_append hF hu1 hu3 ho9 hg9 ha9)
     case sa8 =>
      obtain ⟨vz, v0, v1, v2, rfl⟩ : ∃ vz v0 v1 v2, vs = [vz, v0, v1, v2] := by match vs, hm 4 (by kernel_rfl) with | [vz, v0, v1, v2], _ => exact ⟨_, _, _, _, rfl⟩
      have y0 := hd 7 (by decide) (by kernel_rfl); replace y0 : x 22 = .pointer (some ⟨N, 3, none⟩) := y0; have y1 := hd 6 (by decide) (by kernel_rfl) 21 (by kernel_rfl); replace y1 : x 21 = v2 := y1; replace hF : PushF W w S E A N lr.tail 1 s 0 row acc (pLeaf 2 0 lr.tail) [v0, v1, v2] u := hF; have hF2 := hF; obtain ⟨xn, ln, hT1, hBB, gg, cc, rfl⟩ := hF2; have hc := hBB.nd.cell 3; have hf := hBB.nd.frozen 3; have hl := hBB.lt; simp at hc
      have HF := Z_ hF; clear hd hm hb hF hBB hT1; go_simp; exact hK'.out _ _ undef (by simp only [y0, y1]; rfl) trivial (push_store (z := undef) HF.out)
    case fina =>
     intro x vs w9 hl hF hk; obtain ⟨vz, v0, v1, v2, v3, rfl⟩ : ∃ vz v0 v1 v2 v3, vs = [vz, v0, v1, v2, v3] := by match vs, hl with | [vz, v0, v1, v2, v3], _ => exact ⟨_, _, _, _, _, rfl⟩
     obtain ⟨xn, ln, hT1, hB9⟩ := hF; clear hk hl; have hT2 := hT1.out; unfold pLeaf at hT2; obtain ⟨sn, lz, hq1, hq2⟩ := synm.got_bind hT2; injection hq2 with hq3 hq4
     subst hq3 hq4; replace HT := Z_ (Out.bind_got HT.out hq1); replace HB := Z_ hB9; replace HAT := Z_ HB.out.at; clear hT1 hB9 hT2 hq1; have HN := Z_ (need_any (HAT.out.pr.alloc (.cells #[.string sSemi] 9)) w9.heap.size 1 sSemi ((Blk.made w9 #[.string sSemi] 9).cell 0)); have hEx := (Chg.refl (fun _ => False) w9).alloc (.cells #[.string sSemi] 9); replace HB := Z_ (HB.out.extend hEx); replace HAT := Z_ HB.out.at; clear hEx; go_wp2_with fail
     refine HN.out.mono ?_
     rintro e u7 hr; obtain ⟨hC, ⟨lb, hp, rfl⟩ | ⟨_, l7, _, hp, rfl, rfl, hP⟩⟩ := hr.cases (pNeed_ne _ _)
     ·have HF := Z_ (Out.bind_bad HT.out hp)
      have HC := Z_ (HAT.out.chg.then hC); clear hr hp hC; go_wp2_with fail
      exact ⟨rfl, Pst.fails HC.out HF.out⟩
     replace HT := Z_ (Out.bind_got HT.out hp); replace HB := Z_ (HB.out.call hC hP (by have := synm.need_lt hp; omega)); replace HAT := Z_ HB.out.at; clear hr hp hC hP HN; go_wp2_with fail
     go_roundg m
     case rel => exact ⟨l7, acc ++ [.mk 2 sn 0 []], v2, by omega, HT, HB⟩
     case measure => omega
theorem good_all : ∀ n, Good n := by
 intro n; induction n using Nat.strongRecOn with
 | _ n IH =>
  cases n with
  | zero => intro W w S E l X f a _ _ _ _ hne; exact absurd (by cases X <;> rfl) hne
  | succ n =>
   have ih : ∀ m, m ≤ n → Good m := fun m hm => IH m (by omega)
   intro W w S E l X f a h hm ha hk hne; cases X with
   | expr => cases ha; exact expr_any ih h hm hne
   | bound k => cases ha; exact bound_any ih h hm hk hne
   | unary => cases ha; exact unary_any ih h hm hne
   | asked => cases ha; exact asked_any ih h hm hne
   | place s => cases ha; exact place_any ih h hm hk hne
   | call s => cases ha; exact call_any ih h hm hk hne
   | block => cases ha; exact block_any ih h hm hne
   | stat => cases ha; exact stat_any ih h hm hne
   | decl => cases ha; exact decl_any ih h hm hne
   | proc pub => cases ha; exact proc_any ih h hm hk hne
   | module => cases ha; exact module_any ih h hm hne
   | loop k x => cases ha
   | args s acc => cases ha
   | stats acc => cases ha
   | params s pub acc => cases ha
   | imports s acc => cases ha
   | decls s acc => cases ha
end synw
end Go.Proofs.YtpcihajmcejliacGreatDoor
namespace Go.Proofs.YtpcihajmcejliacGreatDoor
open Go.RowKit
theorem results_cc2 {P : Program} {fn : Func} {p q : Tmp} {ty ty2 : TypeId} (h : fn.results = #[.cell p ty, .cell q ty2]) (tmps : Array Value) (w : World) {g g2 : Nat} {T T2 : TypeId} {cs cs2 : Array Value} {d d2 : TypeDesc}
  (hp : tmps.getD p undef = .pointer (some ⟨g, 0, none⟩)) (hg : Blk w g cs T) (hu : P.underlying ty = some d) (hd : (match d with | .struct _ | .array _ _ => true | _ => false) = true) (hi : (P.info? ty).map (·.size) = some cs.size)
  (hq : tmps.getD q undef = .pointer (some ⟨g2, 0, none⟩)) (hg2 : Blk w g2 cs2 T2) (hu2 : P.underlying ty2 = some d2) (hd2 : (match d2 with | .struct _ | .array _ _ => true | _ => false) = true) (hi2 : (P.info? ty2).map (·.size) = some cs2.size) :
  (results fn tmps).run P w = .ok (.tuple #[.agg cs, .agg cs2]) w := by
 have hp' : tmps[p]?.getD undef = .pointer (some ⟨g, 0, none⟩) := by simpa using hp
 have hq' : tmps[q]?.getD undef = .pointer (some ⟨g2, 0, none⟩) := by simpa using hq
 simp [results, h, hp', hq', asAddr, run_loadVar_row w g T ty cs (0, 0) d hg hu hd hi, run_loadVar_row w g2 T2 ty2 cs2 (0, 0) d2 hg2 hu2 hd2 hi2]
namespace synw
theorem bad_is (v : Value) (w : World) : (Instr.typeAssert (.iface 105 v) 20 105 true).run Tryz.prog w = .ok (.tuple #[v, .bool true]) w := by kernel_rfl
def CatchQ (R F : Nat) (p : Int) (w : World) (e : Exit) (a : Act) (w' : World) : Prop := e = .normal ∧ a.defers = [] ∧ Blk w' R zeroNd 24 ∧ Blk w' F #[.int .i64 2, .int .i64 p] 27 ∧ Chg (fun i => i = R ∨ i = F) w w'
def CatchF (R F B : Nat) (p : Int) (w0 : World) (cs fs : Array Value) : List Value → World → Prop
 | [], u => Blk u R cs 24 ∧ Blk u F fs 27 ∧ Chg (fun i => i = R ∨ i = F) w0 u ∧ Blk u B #[.int .i64 p] 105
 | [_], u => Blk u R zeroNd 24 ∧ Blk u F fs 27 ∧ Chg (fun i => i = R ∨ i = F) w0 u ∧ Blk u B #[.int .i64 p] 105
 | _, u => Blk u R zeroNd 24 ∧ Blk u F #[.int .i64 2, .int .i64 p] 27 ∧ Chg (fun i => i = R ∨ i = F) w0 u ∧ Blk u B #[.int .i64 p] 105
theorem CatchF.b {R F B : Nat} {p : Int} {w0 u : World} {cs fs : Array Value} {vs : List Value} (h : CatchF R F B p w0 cs fs vs u) : Blk u B #[.int .i64 p] 105 := by
 match vs, h with
 | [], h => exact h.2.2.2
 | [_], h => exact h.2.2.2
 | _ :: _ :: _, h => exact h.2.2.2
set_option maxRecDepth 100000 in
set_option maxHeartbeats 4000000 in
theorem catch_parse (R F : Nat) (cs fs : Array Value) (p : Int) (w : World) (hR : Blk w R cs 24) (hcs : cs.size = 4) (hF : Blk w F fs 27) (hfs : fs.size = 2) (hne : R ≠ F) :
  CallsD Tryz.prog 47 #[.pointer (some ⟨R, 0, none⟩), .pointer (some ⟨F, 0, none⟩)] (.panicking (badV p)) w fun e u' w' =>
   e = .returned (.tuple #[]) ∧ u' = .panicking [{ v := .iface 105 (.agg #[.int .i64 p]), recovered := true }] ∧ Blk w' R zeroNd 24 ∧ Blk w' F #[.int .i64 2, .int .i64 p] 27 ∧ Chg (fun i => i = R ∨ i = F) w w' := by
 have hta := bad_is; have hRlt := hR.lt; have hFlt := hF.lt
 obtain ⟨c0, c1, c2, c3, rfl⟩ : ∃ c0 c1 c2 c3, cs = #[c0, c1, c2, c3] := by
  obtain ⟨l⟩ := cs; match l, hcs with
  | [c0, c1, c2, c3], _ => exact ⟨_, _, _, _, rfl⟩
 obtain ⟨f0, f1, rfl⟩ : ∃ f0 f1, fs = #[f0, f1] := by
  obtain ⟨l⟩ := fs; match l, hfs with
  | [f0, f1], _ => exact ⟨_, _, rfl⟩
 clear hcs hfs; obtain ⟨B, hB⟩ : ∃ B, w.heap.size = B := ⟨_, rfl⟩; have hB0 := Blk.made w #[.int .i64 p] 105; rw [hB] at hB0 hRlt hFlt; have hR0 := hR.alloc (.cells #[.int .i64 p] 105); have hF0 := hF.alloc (.cells #[.int .i64 p] 105); have hX0 := (Chg.refl (fun i => i = R ∨ i = F) w).alloc (.cells #[.int .i64 p] 105); refine callsD_of_wpS Tryz.func47 rfl fun c₀ cs hu => ?_
 unfold badV at hu; apply wpS_seq
 apply wpS_region
 simp [wpOpsS, go_sem, recoverD, hu, Tryz.ntmps47, Exit.thenS]
 simp only [Array.replicate, List.replicate, List.append_toArray, List.setIfInBounds_toArray, List.set_cons_zero, List.set_cons_succ, List.cons_append, List.nil_append]; refine wpS_of_wp (Code.wp_mono (Q := CatchQ R F p w) ?_ ?_)
 ·rintro e a w1 ⟨rfl, hd, h1, h2, h3⟩
  exact ⟨hd, _, rfl, _, results_none rfl _ _ _, rfl, rfl, h1, h2, h3⟩
 clear hu; have HR0 := Z_ hR0; have HF0 := Z_ hF0; have HX0 := Z_ hX0; have HB0 := Z_ hB0; clear hR hF hR0 hF0 hX0 hB0; unfold CatchQ; go_upto_region 7 with (fail)
 generalize w.alloc (.cells #[.int .i64 p] 105) = u0 at *; refine wp_region_weave [4, 5] (fun i v _ => v = ([.agg #[.int .i64 0, .string ⟨#[]⟩, .int .i64 0, .slice none 0 0], .pointer (some ⟨B, 0, none⟩), .int .i64 p, .agg #[.int .i64 2, .int .i64 p], undef, undef] : List Value).getD i undef) (CatchF R F B p w #[c0, c1, c2, c3] #[f0, f1]) (fun _ _ => True) (frame := ?fra) (fun x => ?hfa) mixed (by kernel_rfl) (by kernel_rfl) (fun _ _ _ _ h _ => h) ?h0 ?st ?fin
 case hfa =>
  simp only [chain.frameOf, chain.fill, chain.setOpt, chain.dstOf, List.size_toArray, List.length_cons, List.length_nil, List.getElem?_toArray, List.getElem?_cons_succ, List.getElem?_cons_zero, List.setIfInBounds_toArray, List.set_cons_succ, List.set_cons_zero]; exact rfl
 case h0 => exact ⟨HR0.out.drew, HF0.out.drew, HX0.out.drew, HB0.out.drew⟩
 case st =>
  refine AllFrom.cons (fun x vs u hF hm hb hd K' hK' => ?s0) (AllFrom.cons (fun x vs u hF hm hb hd K' hK' => ?s1) (AllFrom.cons (fun x vs u hF hm hb hd K' hK' => ?s2) (AllFrom.cons (fun x vs u hF hm hb hd K' hK' => ?s3) (AllFrom.cons (fun x vs u hF hm hb hd K' hK' => ?s4) (AllFrom.cons (fun x vs u hF hm hb hd K' hK' => ?s5) (AllFrom.nil))))))
  case s0 =>
   have HF := Z_ hF; clear hd hm hb hF; go_simp; exact hK'.out _ _ _ rfl trivial ⟨rfl, HF.out⟩
  case s1 =>
   have HF := Z_ hF; clear hd hm hb hF; go_simp; exact hK'.out _ _ _ rfl trivial ⟨rfl, HF.out⟩
  case s2 =>
   have y0 := hd 1 (by decide) (by kernel_rfl); replace y0 : x 12 = .pointer (some ⟨B, 0, none⟩) := y0; have hc := hF.b.cell 0; simp at hc
   have HF := Z_ hF; clear hd hm hb hF; go_simp; exact hK'.out _ _ _ (by simp only [y0]; rfl) trivial ⟨rfl, HF.out⟩
  case s3 =>
   have y0 := hd 2 (by decide) (by kernel_rfl); replace y0 : x 13 = .int .i64 p := y0; have HF := Z_ hF; clear hd hm hb hF; go_simp; exact hK'.out _ _ _ (by simp only [y0]; rfl) trivial ⟨rfl, HF.out⟩
  case s4 =>
   have y0 := hd 0 (by decide) (by kernel_rfl); replace y0 : x 11 = .agg #[.int .i64 0, .string ⟨#[]⟩, .int .i64 0, .slice none 0 0] := y0; obtain rfl := List.eq_nil_of_length_eq_zero (hm 0 (by kernel_rfl)); obtain ⟨g1, g2, g3, g4⟩ := (show _ ∧ _ from hF); have hc := g1.cell; have hf := g1.frozen; have hl := g1.lt; have HG := Z_ (And.intro g1 (And.intro g2 (And.intro g3 g4))); clear hd hm hb hF g1 g2 g3 g4; go_simp; obtain ⟨g1, g2, g3, g4⟩ := HG.out; exact hK'.out _ _ undef (by simp only [y0]; rfl) trivial ⟨(((g1.set 0 _).set 1 _).set 2 _).set 3 _, (((g2.setOther (p := ⟨R, 0, none⟩) (by show F ≠ R; omega) _).setOther (p := ⟨R, 1, none⟩) (by show F ≠ R; omega) _).setOther (p := ⟨R, 2, none⟩) (by show F ≠ R; omega) _).setOther (p := ⟨R, 3, none⟩) (by show F ≠ R; omega) _, (((g3.setCell (p := ⟨R, 0, none⟩) (fun _ => .inl rfl) _).setCell (p := ⟨R, 1, none⟩) (fun _ => .inl rfl) _).setCell (p := ⟨R, 2, none⟩) (fun _ => .inl rfl) _).setCell (p := ⟨R, 3, none⟩) (fun _ => .inl rfl) _, (((g4.setOther (p := ⟨R, 0, none⟩) (by show B ≠ R; omega) _).setOther (p := ⟨R, 1, none⟩) (by show B ≠ R; omega) _).setOther (p := ⟨R, 2, none⟩) (by show B ≠ R; omega) _).setOther (p := ⟨R, 3, none⟩) (by show B ≠ R; omega) _⟩
  case s5 =>
   have y0 := hd 3 (by decide) (by kernel_rfl); replace y0 : x 14 = .agg #[.int .i64 2, .int .i64 p] := y0; obtain ⟨v0, rfl⟩ : ∃ v0, vs = [v0] := by match vs, hm 1 (by kernel_rfl) with | [v0], _ => exact ⟨_, rfl⟩
   obtain ⟨g1, g2, g3, g4⟩ := (show _ ∧ _ from hF); have hc := g2.cell; have hf := g2.frozen; have hl := g2.lt; have HG := Z_ (And.intro g1 (And.intro g2 (And.intro g3 g4))); clear hd hm hb hF g1 g2 g3 g4; go_simp; obtain ⟨g1, g2, g3, g4⟩ := HG.out; exact hK'.out _ _ undef (by simp only [y0]; rfl) trivial ⟨(g1.setOther (p := ⟨F, 0, none⟩) hne _).setOther (p := ⟨F, 1, none⟩) hne _, (g2.set 0 _).set 1 _, (g3.setCell (p := ⟨F, 0, none⟩) (fun _ => .inr rfl) _).setCell (p := ⟨F, 1, none⟩) (fun _ => .inr rfl) _, (g4.setOther (p := ⟨F, 0, none⟩) (by show B ≠ F; omega) _).setOther (p := ⟨F, 1, none⟩) (by show B ≠ F; omega) _⟩
 case fin =>
  intro x vs w9 hl hF hk; obtain ⟨v0, v1, rfl⟩ : ∃ v0 v1, vs = [v0, v1] := by match vs, hl with | [v0, v1], _ => exact ⟨_, _, rfl⟩
  obtain ⟨g1, g2, g3, g4⟩ := (show _ ∧ _ from hF); clear hk hl; have HG := Z_ (And.intro g1 (And.intro g2 g3)); clear hF g1 g2 g3 g4; go_wp2_with (fail)
  exact HG.out
theorem idle_parse (R F : Nat) (w : World) :
  CallsD Tryz.prog 47 #[.pointer (some ⟨R, 0, none⟩), .pointer (some ⟨F, 0, none⟩)] .returning w fun e u' w' => e = .returned (.tuple #[]) ∧ u' = .returning ∧ w' = w := by
 refine callsD_of_wpS Tryz.func47 rfl fun c₀ cs hu => ?_
 apply wpS_seq
 apply wpS_region
 simp [wpOpsS, go_sem, recoverD, hu, Tryz.ntmps47, Exit.thenS]
 simp only [Array.replicate, List.replicate, List.append_toArray, List.setIfInBounds_toArray, List.set_cons_zero, List.set_cons_succ, List.cons_append, List.nil_append]; refine wpS_of_wp (Code.wp_mono (Q := fun e a' w' => e = .normal ∧ a'.defers = [] ∧ w' = w) ?_ ?_)
 ·rintro e a w1 ⟨rfl, hd, rfl⟩
  exact ⟨hd, .returning, by cases c₀; simp_all, _, results_none rfl _ _ _, rfl, rfl, rfl⟩
 clear hu; go_wp2_with (fail)
end synw
end Go.Proofs.YtpcihajmcejliacGreatDoor
namespace Go.Proofs.YtpcihajmcejliacGreatDoor
open Go.RowKit
def NT.rank : NT → Nat
 | .loop _ _ => 1
 | .unary => 4
 | .asked => 1
 | .place _ => 1
 | .call _ => 1
 | .bound k => 5 + (4 - k)
 | .expr => 10
 | .args _ _ => 11
 | .block => 1
 | .stats _ => 2
 | .stat => 1
 | .decl => 1
 | .proc _ => 1
 | .params _ _ _ => 1
 | .module => 1
 | .imports _ _ => 3
 | .decls _ _ => 2
namespace synm
theorem bind_in {α β : Type} {o : Out α} {f : α → List Tk → Out β} (h1 : o ≠ .out) (h2 : ∀ x l, o = .got x l → f x l ≠ .out) : o.bind f ≠ .out := by
 cases o with
 | out => exact absurd rfl h1
 | bad l => intro h; cases h
 | got x l => exact h2 x l rfl
theorem need_in (s : ByteArray) (l : List Tk) : pNeed s l ≠ .out := by unfold pNeed; split <;> intro h <;> cases h
theorem name_in (l : List Tk) : pName l ≠ .out := by
 cases l with
 | nil => intro h; cases h
 | cons t r =>
  simp only [pName, ne_eq]; split <;> simp
theorem whole_in (l : List Tk) : pWhole l ≠ .out := by
 unfold pWhole; refine bind_in (name_in _) fun s l _ => ?_
 split
 ·exact bind_in (name_in _) fun _ _ _ h => by cases h
 ·intro h; cases h
theorem label_in (l : List Tk) : pLabel l ≠ .out := by
 unfold pLabel; split
 ·intro h; cases h
 ·exact bind_in (need_in _ _) fun _ _ _ h => by cases h
theorem number_in (l : List Tk) : pNumber l ≠ .out := by
 cases l with
 | nil => intro h; cases h
 | cons t r =>
  simp only [pNumber, ne_eq]; split <;> simp
theorem semi_in (x : Nd) (l : List Tk) : semi x l ≠ .out := bind_in (need_in _ _) fun _ _ _ h => by cases h
theorem got_in {α : Type} (x : α) (l : List Tk) : Out.got x l ≠ .out := fun h => by cases h
theorem prs_in : ∀ (n : Nat) (X : NT) (l : List Tk), 20 * l.length + X.rank < n → prs n X l ≠ .out := by
 intro n; induction n with
 | zero => intro X l h; omega
 | succ n ih =>
  intro X l h; cases X with
  | expr => simp only [prs]; exact ih _ _ (by simp only [NT.rank] at h ⊢; omega)
  | bound k =>
   simp only [prs]; split
   ·exact ih _ _ (by simp only [NT.rank] at h ⊢; omega)
   ·refine bind_in (ih _ _ (by simp only [NT.rank] at h ⊢; omega)) fun x r hx => ?_
    have a := prs_lt _ _ _ _ _ hx; exact ih _ _ (by simp only [NT.rank, NT.weak] at h a ⊢; omega)
  | loop k x =>
   simp only [prs]; split
   ·rename_i hk
    have := head_lt hk.1; refine bind_in (ih _ _ (by simp only [NT.rank] at h ⊢; omega)) fun y r hy => ?_
    have a := prs_lt _ _ _ _ _ hy; split
    ·exact got_in _ _
    ·exact ih _ _ (by simp only [NT.rank, NT.weak] at h a ⊢; omega)
   ·exact got_in _ _
  | unary =>
   simp only [prs]; split
   ·rename_i hb
    have := tail_lt hb; exact bind_in (ih _ _ (by simp only [NT.rank] at h ⊢; omega)) fun _ _ _ => got_in _ _
   split
   ·rename_i hb
    have := tail_lt hb; exact bind_in (ih _ _ (by simp only [NT.rank] at h ⊢; omega)) fun _ _ _ => got_in _ _
   split
   ·exact ih _ _ (by simp only [NT.rank] at h ⊢; omega)
   split
   ·exact number_in _
   ·refine bind_in (whole_in _) fun s r hs => ?_
    have := whole_lt hs; split
    ·exact ih _ _ (by simp only [NT.rank] at h ⊢; omega)
    ·exact ih _ _ (by simp only [NT.rank] at h ⊢; omega)
  | asked =>
   simp only [prs]; refine bind_in (need_in _ _) fun _ r hs => ?_
   have := need_lt hs; refine bind_in (ih _ _ (by simp only [NT.rank] at h ⊢; omega)) fun _ _ _ => bind_in (need_in _ _) fun _ _ _ => got_in _ _
  | place s =>
   simp only [prs]; split
   ·rename_i hb
    have := tail_lt hb; refine bind_in (ih _ _ (by simp only [NT.rank] at h ⊢; omega)) fun _ _ _ => bind_in (need_in _ _) fun _ _ _ => got_in _ _
   ·exact got_in _ _
  | call s =>
   simp only [prs]; refine bind_in (need_in _ _) fun _ r hs => ?_
   have := need_lt hs; exact ih _ _ (by simp only [NT.rank] at h ⊢; omega)
  | args s acc =>
   simp only [prs]; split
   ·exact bind_in (need_in _ _) fun _ _ _ => got_in _ _
   ·refine bind_in (ih _ _ (by simp only [NT.rank] at h ⊢; omega)) fun x r hx => ?_
    have a := prs_lt _ _ _ _ _ hx; split
    ·rename_i hb
     have := tail_lt hb; exact ih _ _ (by simp only [NT.rank, NT.weak] at h a ⊢; omega)
    ·exact bind_in (need_in _ _) fun _ _ _ => got_in _ _
  | block =>
   simp only [prs]; refine bind_in (need_in _ _) fun _ r hs => ?_
   have := need_lt hs; exact ih _ _ (by simp only [NT.rank] at h ⊢; omega)
  | stats acc =>
   simp only [prs]; split
   ·exact got_in _ _
   ·refine bind_in (ih _ _ (by simp only [NT.rank] at h ⊢; omega)) fun x r hx => ?_
    have a := prs_lt _ _ _ _ _ hx; exact ih _ _ (by simp only [NT.rank, NT.weak] at h a ⊢; omega)
  | stat =>
   simp only [prs]; simp only [NT.rank] at h; split
   ·refine bind_in (label_in _) fun _ r h1 => bind_in (name_in _) fun _ r2 h2 => bind_in (need_in _ _) fun _ r3 h3 => ?_
    have := label_lt h1; have := name_lt h2; have := need_lt h3
    exact bind_in (ih _ _ (by simp only [NT.rank]; omega)) fun _ _ _ => semi_in _ _
   split
   ·rename_i hb
    have := tail_lt hb; refine bind_in (whole_in _) fun _ r h1 => ?_
    have := whole_lt h1; exact bind_in (ih _ _ (by simp only [NT.rank]; omega)) fun _ _ _ => semi_in _ _
   split
   ·rename_i hb
    have := tail_lt hb; refine bind_in (ih _ _ (by simp only [NT.rank]; omega)) fun _ _ h1 => ?_
    have a := prs_lt _ _ _ _ _ h1; refine bind_in (ih _ _ (by simp only [NT.rank]; omega)) fun _ _ h2 => ?_
    have b := prs_lt _ _ _ _ _ h2; split
    ·rename_i hb2
     have := tail_lt hb2; exact bind_in (ih _ _ (by simp only [NT.rank]; omega)) fun _ _ _ => got_in _ _
    ·exact got_in _ _
   split
   ·rename_i hb
    have := tail_lt hb; refine bind_in (ih _ _ (by simp only [NT.rank]; omega)) fun _ _ h1 => ?_
    have a := prs_lt _ _ _ _ _ h1; exact bind_in (ih _ _ (by simp only [NT.rank]; omega)) fun _ _ _ => got_in _ _
   split
   ·rename_i hb
    have := tail_lt hb; refine bind_in (label_in _) fun _ r h1 => ?_
    have := label_lt h1; exact bind_in (ih _ _ (by simp only [NT.rank]; omega)) fun _ _ _ => semi_in _ _
   split
   ·rename_i hb
    have := tail_lt hb; refine bind_in (label_in _) fun _ r h1 => bind_in (whole_in _) fun _ r2 h2 => ?_
    have := label_lt h1; have := whole_lt h2
    exact bind_in (ih _ _ (by simp only [NT.rank]; omega)) fun _ _ _ => semi_in _ _
   split
   ·rename_i hb
    have := tail_lt hb; exact bind_in (ih _ _ (by simp only [NT.rank]; omega)) fun _ _ _ => semi_in _ _
   ·refine bind_in (whole_in _) fun _ r h1 => ?_
    have := whole_lt h1; refine bind_in (ih _ _ (by simp only [NT.rank]; omega)) fun _ r2 h2 => ?_
    have a := prs_lt _ _ _ _ _ h2; refine bind_in (need_in _ _) fun _ r3 h3 => ?_
    have := need_lt h3; exact bind_in (ih _ _ (by simp only [NT.rank]; omega)) fun _ _ _ => semi_in _ _
  | decl =>
   simp only [prs]; simp only [NT.rank] at h
   obtain ⟨l2, hl2, hle⟩ : ∃ l2, (if isB l [sPub] = true then l.tail else l) = l2 ∧ l2.length ≤ l.length := by
    refine ⟨_, rfl, ?_⟩
    split
    ·rename_i hb; have := tail_lt hb; omega
    ·exact Nat.le_refl _
   rw [hl2]; split
   ·rename_i hb
    have := tail_lt hb; exact ih _ _ (by simp only [NT.rank]; omega)
   ·refine bind_in (label_in _) fun _ r h1 => bind_in (name_in _) fun _ r2 h2 => ?_
    split
    ·exact bind_in (number_in _) fun _ _ _ => bind_in (need_in _ _) fun _ _ _ => semi_in _ _
    ·exact semi_in _ _
  | proc pub =>
   simp only [prs]; simp only [NT.rank] at h; refine bind_in (name_in _) fun _ r h1 => bind_in (need_in _ _) fun _ r2 h2 => ?_
   have := name_lt h1; have := need_lt h2
   exact ih _ _ (by simp only [NT.rank]; omega)
  | params s pub acc =>
   simp only [NT.rank] at h
   have done : ∀ (acc : List Nd) (l2 : List Tk), l2.length ≤ l.length → ((pNeed sClose l2).bind fun _ l => (pLabel l).bind fun b l =>
     if isB l [sGives] = true then (pLabel l.tail).bind fun g l => (prs n .block l).bind fun x l => Out.got (Nd.mk 4 s (pub + b + (4 + 4 * g)) (acc ++ [x])) l
     else (prs n .block l).bind fun x l => Out.got (Nd.mk 4 s (pub + b) (acc ++ [x])) l) ≠ Out.out := by
    intro acc l2 hle; refine bind_in (need_in _ _) fun _ r h1 => bind_in (label_in _) fun _ r2 h2 => ?_
    have := need_lt h1; have := label_lt h2
    split
    ·rename_i hb
     have := tail_lt hb; refine bind_in (label_in _) fun _ r3 h3 => ?_
     have := label_lt h3; exact bind_in (ih _ _ (by simp only [NT.rank]; omega)) fun _ _ _ => got_in _ _
    ·exact bind_in (ih _ _ (by simp only [NT.rank]; omega)) fun _ _ _ => got_in _ _
   simp only [prs]; split
   ·exact done _ _ (Nat.le_refl _)
   ·refine bind_in (label_in _) fun _ r h1 => bind_in (name_in _) fun _ r2 h2 => ?_
    have := label_lt h1; have := name_lt h2
    split
    ·rename_i hb
     have := tail_lt hb; exact ih _ _ (by simp only [NT.rank]; omega)
    ·exact done _ _ (by omega)
  | module =>
   simp only [prs]; simp only [NT.rank] at h; refine bind_in (need_in _ _) fun _ r h1 => bind_in (name_in _) fun _ r2 h2 => bind_in (need_in _ _) fun _ r3 h3 => ?_
   have := need_lt h1; have := name_lt h2; have := need_lt h3
   exact ih _ _ (by simp only [NT.rank]; omega)
  | imports s acc =>
   simp only [prs]; simp only [NT.rank] at h; split
   ·rename_i hb
    have := tail_lt hb; refine bind_in (name_in _) fun _ r2 h2 => bind_in (need_in _ _) fun _ r3 h3 => ?_
    have := name_lt h2; have := need_lt h3
    exact ih _ _ (by simp only [NT.rank]; omega)
   ·exact ih _ _ (by simp only [NT.rank]; omega)
  | decls s acc =>
   simp only [prs]; simp only [NT.rank] at h; split
   ·exact got_in _ _
   ·refine bind_in (ih _ _ (by simp only [NT.rank]; omega)) fun x r hx => ?_
    have a := prs_lt _ _ _ _ _ hx; exact ih _ _ (by simp only [NT.rank, NT.weak] at a ⊢; omega)
end synm
end Go.Proofs.YtpcihajmcejliacGreatDoor
namespace Go.Proofs.YtpcihajmcejliacGreatDoor
open Go.RowKit
def tkOf (s : ByteArray) (t : Tok) : Tk := ⟨t.1, s.extract t.2.1 (t.2.1 + t.2.2), t.2.1⟩
def tksOf (s : ByteArray) (l : List Tok) : List Tk := l.map (tkOf s)
namespace synk
theorem numeral_ok {l : List UInt8} (h : numeralF l = 0) : digs l = true ∧ decFrom 0 l < 9223372036854775808 := by
 unfold numeralF at h; split at h
 ·cases h
 ·rename_i h1
  split at h
  ·cases h
  ·split at h
   ·cases h
   ·rename_i h3
    exact ⟨by simpa using h1, by omega⟩
theorem take_all (l : List UInt8) : (l.take (runN partB l)).all (fun c => partB c.toNat) = true := by
 rw [again.take_run, List.all_eq_true]; intro x hx; have := List.all_takeWhile (l := l) (p := fun c => partB c.toNat); rw [List.all_eq_true] at this; exact this x hx
theorem flat_cells (s : ByteArray) : ∀ (T : List Tok) (j : Nat) (h : j < T.length) (i : Nat) (_ : i < 3), (tokCells s T)[j * 3 + i]? = (Tok.cells s T[j])[i]? := by
 intro T; induction T with
 | nil => intro j h; cases h
 | cons t r ih =>
  intro j h i hi; have hl : (Tok.cells s t).length = 3 := rfl; have e : tokCells s (t :: r) = Tok.cells s t ++ tokCells s r := by simp [tokCells]
  rw [e]; cases j with
  | zero => rw [List.getElem?_append_left (by omega)]; simp
  | succ j =>
   rw [List.getElem?_append_right (by omega), show (j + 1) * 3 + i - (Tok.cells s t).length = j * 3 + i by omega, ih j (by simpa using h) i hi]; simp
theorem tk_ok (s : ByteArray) (hs : s.size ≤ 3000) (t : Tok) (h : again.Good s.data.toList t) : TkOk (tkOf s t) := by
 obtain ⟨k, p, n⟩ := t; obtain ⟨h1, h2, h3⟩ := h; simp only at h1 h2 h3; have hlen : s.data.toList.length = s.size := by rw [Array.length_toList]; rfl
 have htx : (tkOf s (k, p, n)).text.data.toList = (s.data.toList.drop p).take n := lex.extract_list s p n
 have hsz : (tkOf s (k, p, n)).text.size ≤ 3000 := by
  have e : (tkOf s (k, p, n)).text.size = (tkOf s (k, p, n)).text.data.toList.length := by rw [Array.length_toList]; rfl
  rw [e, htx, List.length_take, List.length_drop]; omega
 obtain ⟨c, r, hm⟩ : ∃ c r, s.data.toList.drop p = c :: r := by
  cases hd : s.data.toList.drop p with
  | nil =>
   have := congrArg List.length hd; rw [List.length_drop] at this; simp only [List.length_nil] at this; omega
  | cons c r => exact ⟨c, r, rfl⟩
 rw [hm] at h1 htx; simp only [tokF] at h1; split at h1
 ·rename_i hl
  simp only [Prod.mk.injEq] at h1; obtain ⟨rfl, rfl, h4⟩ := h1
  have hn : runN partB (c :: r) ≤ 16 := by
   rcases Nat.lt_or_ge 16 (runN partB (c :: r)) with h5 | h5
   ·rw [if_pos h5] at h4; cases h4
   ·exact h5
  have hpos : 1 ≤ runN partB (c :: r) := by simp [runN, partB, hl]
  refine ⟨⟨by simp [tkOf], by simp [tkOf]⟩, hsz, fun _ => ?_, fun e => (by cases e), fun e => (by cases e)⟩
  rw [htx]; unfold wordB; rw [take_all, Bool.and_true, Bool.and_eq_true, decide_eq_true_eq, List.length_take]; refine ⟨?_, by omega⟩
  obtain ⟨q, hq⟩ : ∃ q, runN partB (c :: r) = q + 1 := ⟨runN partB (c :: r) - 1, by omega⟩; rw [hq, List.take_succ_cons]; exact hl
 ·split at h1
  ·rename_i hl hd
   simp only [Prod.mk.injEq] at h1; obtain ⟨rfl, rfl, h4⟩ := h1; have hpos : 1 ≤ runN partB (c :: r) := by simp [runN, partB, hd]
   refine ⟨⟨by simp [tkOf], by simp [tkOf]⟩, hsz, fun e => (by cases e), fun _ => ?_, fun e => (by cases e)⟩
   rw [htx]; obtain ⟨h5, h6⟩ := numeral_ok h4; refine ⟨h5, ?_, h6⟩
   obtain ⟨q, hq⟩ : ∃ q, runN partB (c :: r) = q + 1 := ⟨runN partB (c :: r) - 1, by omega⟩; rw [hq, List.take_succ_cons]; simp
  ·rename_i hl hd
   simp only [Prod.mk.injEq] at h1; obtain ⟨rfl, rfl, h4⟩ := h1; refine ⟨⟨by simp [tkOf], by simp [tkOf]⟩, hsz, fun e => (by cases e), fun e => (by cases e), fun _ => ?_⟩
   rw [htx]; unfold wordB
   have : headB ((c :: r).take (signN (c :: r))) = false := by
    cases hs : signN (c :: r) with
    | zero => rfl
    | succ q =>
     rw [List.take_succ_cons]; simpa [headB] using hl
   rw [this]; rfl
theorem scan_tks (s : ByteArray) (T : List Tok) (a : Nat) (h : scanF s.data.toList = (T, 0, a)) : s.size ≤ 3000 ∧ (∀ t ∈ tksOf s T, TkOk t) ∧ T.length ≤ 3001 := by
 have hlen : s.data.toList.length = s.size := by rw [Array.length_toList]; rfl
 have h0 := h; rw [scanF] at h; split at h
 ·cases h
 ·rename_i hle
  obtain ⟨h1, h2⟩ := again.scan_good s.data.toList (s.data.toList.length + 1) (skipB false s.data.toList) [] (by simp); rw [h] at h1; refine ⟨by omega, fun t ht => ?_, ?_⟩
  ·obtain ⟨t', ht', rfl⟩ := List.mem_map.1 ht
   exact tk_ok s (by omega) t' (h1 t' ht')
  ·have := lexTells.scan_length (s.data.toList.length + 1) s.data.toList (skipB false s.data.toList) []
   rw [h] at this; simp only [List.length_nil] at this; omega
theorem tks_in {w : World} {B : Nat} {s : ByteArray} {T : List Tok} {v : Value} (h : w.ownsRow B 195 3 v T.length (tokCells s T)) (hok : ∀ t ∈ tksOf s T, TkOk t) : ∃ a c, v = .slice a T.length c ∧ TksIn w a 0 (tksOf s T) := by
 have h9 := h; obtain ⟨h1, h2⟩ := h; rcases h2 with ⟨rfl, h0⟩ | ⟨g, cap, cur, rfl, hb, hh, -⟩
 ·refine ⟨none, 0, by rw [h0], fun j hj => ?_⟩
  simp [tksOf, h0] at hj
 ·refine ⟨_, cap, rfl, fun j hj => ⟨g, 0, rfl, (Array.getElem?_eq_some_iff.1 hh).1, ?_⟩⟩
  have hjl : j < T.length := by simpa [tksOf] using hj
  have e : (tksOf s T)[j] = tkOf s T[j] := by simp [tksOf]
  have hcell : ∀ i, i < 3 → w.cell? ⟨g, 0 + (0 + j) * 3 + i, none⟩ = (Tok.cells s T[j])[i]? := fun i hi => by
   rw [show 0 + (0 + j) * 3 + i = j * 3 + i by omega, h9.cellAt (j * 3 + i) (by omega)]; have := flat_cells s T j hjl i hi; exact this
  rw [e]; exact ⟨(hcell 0 (by decide)).trans rfl, (hcell 1 (by decide)).trans rfl, (hcell 2 (by decide)).trans rfl, by rw [← e]; exact hok _ (List.getElem_mem hj)⟩
end synk
end Go.Proofs.YtpcihajmcejliacGreatDoor
