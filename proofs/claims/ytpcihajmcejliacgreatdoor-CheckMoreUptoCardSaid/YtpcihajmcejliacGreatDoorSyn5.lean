/- The walk of the program's parser: calls. The walk of the program's parser: what binds. -/
import Derived.Deep.CutBlock
import Derived.Deep.DeepCutAuto
import Derived.Test.YtpcihajmcejliacGreatDoorSyn3
namespace Go.Proofs.YtpcihajmcejliacGreatDoor
open Go.RowKit
namespace synw
set_option maxRecDepth 100000 in
set_option maxHeartbeats 4000000 in
theorem call_any {n : Nat} (ih : ∀ m, m ≤ n → Good m) {W w : World} {S E : Nat} {l : List Tk} {s : ByteArray} (h : PrAt W w S E l) (hm : MaxVar W) (hs : s.size ≤ 7000) (hne : prs (n + 1) (.call s) l ≠ .out) :
  Calls Tryz.prog 332 #[.pointer (some ⟨S, 0, none⟩), .string s] w (Pst (VN w.heap.size) W w S E (prs (n + 1) (.call s) l)) := by
 obtain ⟨T, hT⟩ : ∃ T, prs (n + 1) (.call s) l = T := ⟨_, rfl⟩; rw [hT] at hne ⊢; simp only [prs] at hT; have HT := Z_ hT; have HNE := Z_ hne; have HM := Z_ hm; have HAT : Hid (At W w (w.alloc (.cells #[.int .i64 0, .string ⟨#[]⟩, .int .i64 0, .slice none 0 0] 24)) S E w.heap.size l) := Z_ (At.start h); obtain ⟨A, hA⟩ : ∃ A, w.heap.size = A := ⟨_, rfl⟩; rw [hA] at HAT; have hSA : S < A := by have := h.lt; omega
 clear h hm hne hT; go_enter Tryz.func332, Tryz.ntmps332
 go_upto_region 1 with (fail)
 generalize w.alloc (.cells #[.int .i64 0, .string ⟨#[]⟩, .int .i64 0, .slice none 0 0] 24) = u0 at *; have HN := Z_ (need_any (HAT.out.pr.alloc (.cells #[.string sOpen] 9)) u0.heap.size 1 sOpen ((Blk.made u0 #[.string sOpen] 9).cell 0)); have hEx := (Chg.refl (fun _ => False) u0).alloc (.cells #[.string sOpen] 9); replace HAT := Z_ (HAT.out.extend hEx); clear hEx; go_wp2_with fail
 refine HN.out.mono ?_
 rintro e u1 hr; obtain ⟨hC, ⟨lb, hp, rfl⟩ | ⟨_, l1, _, hp, rfl, rfl, hP⟩⟩ := hr.cases (pNeed_ne _ _)
 ·have HF := Z_ (Out.bind_bad HT.out hp)
  have HC := Z_ (HAT.out.chg.then hC); clear hr hp hC; go_wp2_with fail
  exact ⟨rfl, Pst.fails HC.out HF.out⟩
 replace HT := Z_ (Out.bind_got HT.out hp); replace HAT := Z_ (HAT.out.call hC hP); clear hr hp hC hP HN; go_wp2_with fail
 refine (node_any _ _ _ _ _ _ _).mono ?_
 rintro e u2 ⟨rfl, hE⟩; replace HAT := Z_ (HAT.out.extend hE); have HB := Z_ ((HAT.out.alloc (.cells #[.int .i64 18, .string s, .int .i64 0, .slice none 0 0] 24)).bld (Blk.made u2 _ _) HAT.out.lt); obtain ⟨N, hN⟩ : ∃ N, u2.heap.size = N := ⟨_, rfl⟩; rw [hN] at HB; clear hE HAT; go_upto_block 0 with (fail)
 generalize u2.alloc (.cells #[.int .i64 18, .string s, .int .i64 0, .slice none 0 0] 24) = v0 at *; go_cut [] (fun w' => ∃ (acc : List Nd) (row : Value) (l2 : List Tk), Hid ((pNeed sClose l2).bind (fun _ l => .got (.mk 18 s 0 acc) l) = T) ∧ Hid (Bld W w w' S E A N l2 18 s 0 row row acc))
 case first =>
  go_wp2_with fail
  go_loopg [] n (fun k wr => ∃ l2 acc row, k ≤ n ∧ Hid (prs k (.args s acc) l2 = T) ∧ Hid (Bld W w wr S E A N l2 18 s 0 row row acc))
  case atStart => exact ⟨l1, [], .slice none 0 0, Nat.le_refl _, HT, HB⟩
  clear HT HB
  case round =>
   obtain ⟨lr, acc, row, hkn, HT, HB⟩ := hrel; cases gk with
   | zero => exact absurd HT.out.symm HNE.out
   | succ m =>
    have HT0 := HT.out; clear HT; simp only [prs] at HT0; have HT := Z_ HT0; clear HT0; have HAT := Z_ HB.out.at; obtain ⟨ra, rc, rfl⟩ := HB.out.slice
    have HH := Z_ (is_any (HAT.out.pr.alloc (.cells #[.string sClose] 9)) wr.heap.size [sClose] 1 1 rfl (by decide) (fun j hj => by
     obtain rfl : j = 0 := by simpa using hj
     exact (Blk.made wr #[.string sClose] 9).cell 0) (by simp))
    have hEx := (Chg.refl (fun _ => False) wr).alloc (.cells #[.string sClose] 9); replace HB := Z_ (HB.out.extend hEx); replace HAT := Z_ HB.out.at; clear hEx; generalize isB lr [sClose] = R at *; go_wp2_with fail
    refine HH.out.mono ?_
    rintro e u3 ⟨rfl, hE⟩; replace HB := Z_ (HB.out.extend hE); replace HAT := Z_ HB.out.at; clear hE HH; cases R with
    | false =>
     have HT0 := HT.out; clear HT; simp only [Bool.false_eq_true, false_and, ↓reduceIte] at HT0; have HT := Z_ HT0; clear HT0; go_upto_region 4 with (fail)
     refine wp_region_weave [3, 4, 5, 7] (fun i v _ => v = ([.pointer (some ⟨N, 3, none⟩), (.slice ra acc.length rc), .pointer (some ⟨S, 0, none⟩), undef, undef, undef, .pointer (some ⟨N, 3, none⟩), undef] : List Value).getD i undef) (PushF W w S E A N lr 18 s 0 (.slice ra acc.length rc) acc (prs m .expr lr)) (fun _ _ => True) (frame := ?fraa) (fun x => ?hfaa) mixed (by kernel_rfl) (by kernel_rfl) (fun _ _ _ _ h _ => h) ?h0a ?sta ?fina
     case hfaa =>
      simp only [chain.frameOf, chain.fill, chain.setOpt, chain.dstOf, List.size_toArray, List.length_cons, List.length_nil, List.getElem?_toArray, List.getElem?_cons_succ, List.getElem?_cons_zero, List.setIfInBounds_toArray, List.set_cons_succ, List.set_cons_zero]; exact rfl
     case h0a => exact HB.out.extend (Chg.refl _ _).drew
     case sta =>
      refine AllFrom.cons (fun x vs u hF hm hb hd K' hK' => ?sa0) (AllFrom.cons (fun x vs u hF hm hb hd K' hK' => ?sa1) (AllFrom.cons (fun x vs u hF hm hb hd K' hK' => ?sa2) (AllFrom.cons (fun x vs u hF hm hb hd K' hK' => ?sa3) (AllFrom.cons (fun x vs u hF hm hb hd K' hK' => ?sa4) (AllFrom.cons (fun x vs u hF hm hb hd K' hK' => ?sa5) (AllFrom.cons (fun x vs u hF hm hb hd K' hK' => ?sa6) (AllFrom.cons (fun x vs u hF hm hb hd K' hK' => ?sa7) (AllFrom.nil))))))))
      case sa0 =>
       have HF := Z_ hF; clear hd hm hb hF; go_simp; exact hK'.out _ _ _ rfl trivial ⟨rfl, HF.out⟩
      case sa1 =>
       have y0 := hd 0 (by decide) (by kernel_rfl); replace y0 : x 21 = .pointer (some ⟨N, 3, none⟩) := y0; have hc := hF.cell (by have := hb 2 _ (by decide) rfl (by kernel_rfl); omega); have HF := Z_ hF; clear hd hm hb hF; go_simp; exact hK'.out _ _ _ (by simp only [y0]; rfl) trivial ⟨rfl, HF.out⟩
      case sa2 =>
       have HF := Z_ hF; clear hd hm hb hF; go_simp; exact hK'.out _ _ _ rfl trivial ⟨rfl, HF.out⟩
      case sa6 =>
       have HF := Z_ hF; clear hd hm hb hF; go_simp; exact hK'.out _ _ _ rfl trivial ⟨rfl, HF.out⟩
      case sa3 =>
       have y0 := hd 2 (by decide) (by kernel_rfl); replace y0 : x 23 = .pointer (some ⟨S, 0, none⟩) := y0; obtain rfl := List.eq_nil_of_length_eq_zero (hm 0 (by kernel_rfl)); have HF := Z_ (show Bld _ _ _ _ _ _ _ _ _ _ _ _ _ _ from hF); clear hd hm hb hF; have HCA := Z_ (ih m (by omega) .expr _ _ HF.out.pr HM.out rfl trivial (Out.bind_ne HT.out HNE.out)); go_simp; refine HCA.out.mono ?_
       rintro e u2 hr; obtain ⟨hC, ⟨lb, hp, rfl⟩ | ⟨xn, ln, v, hp, rfl, hv, hP⟩⟩ := hr.cases (Out.bind_ne HT.out HNE.out)
       ·have HE := Z_ (Out.bind_bad HT.out hp)
        have HC := Z_ (HF.out.chg.then hC); clear hr hp hC hK' HCA; go_wp2_with fail
        exact ⟨rfl, Pst.fails HC.out HE.out⟩
       ·exact hK'.out _ _ _ (by simp only [y0]; rfl) trivial (push_call HF.out hC hp hv hP (synm.prs_lt _ _ _ _ _ hp))
      case sa4 =>
       obtain ⟨v0, rfl⟩ : ∃ v0, vs = [v0] := by match vs, hm 1 (by kernel_rfl) with | [v0], _ => exact ⟨_, rfl⟩
       have y0 := hd 3 (by decide) (by kernel_rfl) 24 (by kernel_rfl); replace y0 : x 24 = v0 := y0; have hcl : ∃ a b c d, v0 = .agg #[a, b, c, d] := by obtain ⟨xn, ln, _, _, _, hx⟩ := hF; obtain ⟨a, b, c, d, h, _⟩ := nd_cells hx; exact ⟨a, b, c, d, h⟩
       obtain ⟨a0, b0, c0, d0, rfl⟩ := hcl; have HF := Z_ hF; clear hd hm hb hF; go_simp; exact hK'.out _ _ _ (by simp only [y0]; rfl) trivial (push_slice HF.out rfl)
      case sa5 =>
       obtain ⟨v0, v1, rfl⟩ : ∃ v0 v1, vs = [v0, v1] := by match vs, hm 2 (by kernel_rfl) with | [v0, v1], _ => exact ⟨_, _, rfl⟩
       have y0 := hd 1 (by decide) (by kernel_rfl); replace y0 : x 22 = (.slice ra acc.length rc) := y0; have y1 := hd 4 (by decide) (by kernel_rfl) 25 (by kernel_rfl); replace y1 : x 25 = v1 := y1; have hF2 := hF; obtain ⟨xn, ln, hT1, hBB, hfew, hx, gg, rfl, hgb, hgr⟩ := hF2; obtain ⟨us, hu1, ho, hu3⟩ := hBB.grow.ex; have hlt := hBB.lt; obtain ⟨i0_, hi_, hz0, hz1, hz2⟩ := info_split info_node; refine wp_append_lies _ _ _ 22 rfl (N + 1) 24 i0_ (.agg #[.int .i64 0, .string ⟨#[]⟩, .int .i64 0, .slice none 0 0]) 4 56 Tryz.underlying22 hi_ hz0 hz1 hz2 rfl (by decide) (.slice ra acc.length rc) acc.length (us.flatMap fun u => u.cells.toList) y0 ho ⟨gg, 0, none⟩ 1 1 v0.cells.toList y1 (by rw [Array.length_toList, nd_size hx]) ?_ (by obtain ⟨a, b, c, d, e, e2, p1, p2, p3, p4⟩ := nd_cells hx; rw [e2]; intro q hq; simp at hq; rcases hq with rfl | rfl | rfl | rfl <;> assumption) (by decide) (by unfold maxLen; omega) (by omega) (by omega) u.heap.size rfl ?_
       ·intro j q hj; have e : (⟨gg, 0, none⟩ : Addr).add j = ⟨gg, j, none⟩ := (by unfold Addr.add; split <;> simp_all); rw [e, hgb.cell]; simpa using hj
       ·intro g9 c9 w9 ho9 hg9 ha9 hl9
        exact hK'.out _ _ _ rfl trivial (push_append hF hu1 hu3 ho9 hg9 ha9)
      case sa7 =>
       obtain ⟨v0, v1, v2, rfl⟩ : ∃ v0 v1 v2, vs = [v0, v1, v2] := by match vs, hm 3 (by kernel_rfl) with | [v0, v1, v2], _ => exact ⟨_, _, _, rfl⟩
       have y0 := hd 6 (by decide) (by kernel_rfl); replace y0 : x 27 = .pointer (some ⟨N, 3, none⟩) := y0; have y1 := hd 5 (by decide) (by kernel_rfl) 26 (by kernel_rfl); replace y1 : x 26 = v2 := y1; have hF2 := hF; obtain ⟨xn, ln, hT1, hBB, gg, cc, rfl⟩ := hF2; have hc := hBB.nd.cell 3; have hf := hBB.nd.frozen 3; have hl := hBB.lt; simp at hc
       have HF := Z_ hF; clear hd hm hb hF hBB hT1; go_simp; exact hK'.out _ _ undef (by simp only [y0, y1]; rfl) trivial (push_store HF.out)
     case fina =>
      intro x vs w9 hl hF hk; obtain ⟨v0, v1, v2, v3, rfl⟩ : ∃ v0 v1 v2 v3, vs = [v0, v1, v2, v3] := by match vs, hl with | [v0, v1, v2, v3], _ => exact ⟨_, _, _, _, rfl⟩
      obtain ⟨xn, ln, hT1, hB9⟩ := hF; clear hk hl; replace HT := Z_ (Out.bind_got HT.out hT1.out); replace HB := Z_ hB9; replace HAT := Z_ HB.out.at; clear hT1 hB9; have HH := Z_ (have_any HAT.out.pr sComma); have HLE := Z_ (fun (h : isB ln [sComma] = true) => synm.tail_lt h); generalize isB ln [sComma] = R at *; go_wp2_with fail
      refine HH.out.mono ?_
      rintro e u4 ⟨rfl, hC, hP⟩; cases R with
      | false =>
       replace hP : PrAt W u4 S E ln := by simpa using hP
       have HT0 := HT.out; clear HT; simp only [Bool.false_eq_true, ↓reduceIte] at HT0; have HT := Z_ HT0; clear HT0; replace HB := Z_ (HB.out.call hC hP (Nat.le_refl _)); replace HAT := Z_ HB.out.at; clear hC hP HH HLE; go_wp2_with fail
       go_meet
       exact ⟨acc ++ [xn], v2, ln, HT, HB⟩
      | true =>
       replace hP : PrAt W u4 S E ln.tail := by simpa using hP
       have HT0 := HT.out; clear HT; simp only [↓reduceIte] at HT0; have HT := Z_ HT0; clear HT0; replace HB := Z_ (HB.out.call hC hP (by have := HLE.out rfl; omega)); replace HAT := Z_ HB.out.at; clear hC hP HH HLE; go_wp2_with fail
       go_roundg m
       case rel => exact ⟨ln.tail, acc ++ [xn], v2, by omega, HT, HB⟩
       case measure => omega
    | true =>
     have c3 := HB.out.nd.cell 3; simp at c3
     by_cases hl0 : acc.length = 0
     ·have HT0 := HT.out
      clear HT; simp only [hl0, and_self, ↓reduceIte] at HT0; have HT := Z_ HT0; clear HT0; have HB2 : Hid (∃ row, Bld W w u3 S E A N lr 18 s 0 row row acc) := Z_ ⟨_, HB.out⟩; clear HB HAT; rw [hl0] at c3; go_wp2_with fail
      go_meet
      obtain ⟨row, HB⟩ := HB2.out; exact ⟨acc, row, lr, HT, Z_ HB⟩
     ·have HT0 := HT.out
      clear HT; simp only [hl0, and_false, ↓reduceIte] at HT0; have HT := Z_ HT0; clear HT0; have hl1 : 0 < acc.length := by omega
      go_upto_region 4 with (fail)
      refine wp_region_weave [3, 4, 5, 7] (fun i v _ => v = ([.pointer (some ⟨N, 3, none⟩), (.slice ra acc.length rc), .pointer (some ⟨S, 0, none⟩), undef, undef, undef, .pointer (some ⟨N, 3, none⟩), undef] : List Value).getD i undef) (PushF W w S E A N lr 18 s 0 (.slice ra acc.length rc) acc (prs m .expr lr)) (fun _ _ => True) (frame := ?frab) (fun x => ?hfab) mixed (by kernel_rfl) (by kernel_rfl) (fun _ _ _ _ h _ => h) ?h0b ?stb ?finb
      case hfab =>
       simp only [chain.frameOf, chain.fill, chain.setOpt, chain.dstOf, List.size_toArray, List.length_cons, List.length_nil, List.getElem?_toArray, List.getElem?_cons_succ, List.getElem?_cons_zero, List.setIfInBounds_toArray, List.set_cons_succ, List.set_cons_zero]; exact rfl
      case h0b => exact HB.out.extend (Chg.refl _ _).drew
      case stb =>
       refine AllFrom.cons (fun x vs u hF hm hb hd K' hK' => ?sb0) (AllFrom.cons (fun x vs u hF hm hb hd K' hK' => ?sb1) (AllFrom.cons (fun x vs u hF hm hb hd K' hK' => ?sb2) (AllFrom.cons (fun x vs u hF hm hb hd K' hK' => ?sb3) (AllFrom.cons (fun x vs u hF hm hb hd K' hK' => ?sb4) (AllFrom.cons (fun x vs u hF hm hb hd K' hK' => ?sb5) (AllFrom.cons (fun x vs u hF hm hb hd K' hK' => ?sb6) (AllFrom.cons (fun x vs u hF hm hb hd K' hK' => ?sb7) (AllFrom.nil))))))))
       case sb0 =>
        have HF := Z_ hF; clear hd hm hb hF; go_simp; exact hK'.out _ _ _ rfl trivial ⟨rfl, HF.out⟩
       case sb1 =>
        have y0 := hd 0 (by decide) (by kernel_rfl); replace y0 : x 21 = .pointer (some ⟨N, 3, none⟩) := y0; have hc := hF.cell (by have := hb 2 _ (by decide) rfl (by kernel_rfl); omega); have HF := Z_ hF; clear hd hm hb hF; go_simp; exact hK'.out _ _ _ (by simp only [y0]; rfl) trivial ⟨rfl, HF.out⟩
       case sb2 =>
        have HF := Z_ hF; clear hd hm hb hF; go_simp; exact hK'.out _ _ _ rfl trivial ⟨rfl, HF.out⟩
       case sb6 =>
        have HF := Z_ hF; clear hd hm hb hF; go_simp; exact hK'.out _ _ _ rfl trivial ⟨rfl, HF.out⟩
       case sb3 =>
        have y0 := hd 2 (by decide) (by kernel_rfl); replace y0 : x 23 = .pointer (some ⟨S, 0, none⟩) := y0; obtain rfl := List.eq_nil_of_length_eq_zero (hm 0 (by kernel_rfl)); have HF := Z_ (show Bld _ _ _ _ _ _ _ _ _ _ _ _ _ _ from hF); clear hd hm hb hF; have HCA := Z_ (ih m (by omega) .expr _ _ HF.out.pr HM.out rfl trivial (Out.bind_ne HT.out HNE.out)); go_simp; refine HCA.out.mono ?_
        rintro e u2 hr; obtain ⟨hC, ⟨lb, hp, rfl⟩ | ⟨xn, ln, v, hp, rfl, hv, hP⟩⟩ := hr.cases (Out.bind_ne HT.out HNE.out)
        ·have HE := Z_ (Out.bind_bad HT.out hp)
         have HC := Z_ (HF.out.chg.then hC); clear hr hp hC hK' HCA; go_wp2_with fail
         exact ⟨rfl, Pst.fails HC.out HE.out⟩
        ·exact hK'.out _ _ _ (by simp only [y0]; rfl) trivial (push_call HF.out hC hp hv hP (synm.prs_lt _ _ _ _ _ hp))
       case sb4 =>
        obtain ⟨v0, rfl⟩ : ∃ v0, vs = [v0] := by match vs, hm 1 (by kernel_rfl) with | [v0], _ => exact ⟨_, rfl⟩
        have y0 := hd 3 (by decide) (by kernel_rfl) 24 (by kernel_rfl); replace y0 : x 24 = v0 := y0; have hcl : ∃ a b c d, v0 = .agg #[a, b, c, d] := by obtain ⟨xn, ln, _, _, _, hx⟩ := hF; obtain ⟨a, b, c, d, h, _⟩ := nd_cells hx; exact ⟨a, b, c, d, h⟩
        obtain ⟨a0, b0, c0, d0, rfl⟩ := hcl; have HF := Z_ hF; clear hd hm hb hF; go_simp; exact hK'.out _ _ _ (by simp only [y0]; rfl) trivial (push_slice HF.out rfl)
       case sb5 =>
        obtain ⟨v0, v1, rfl⟩ : ∃ v0 v1, vs = [v0, v1] := by match vs, hm 2 (by kernel_rfl) with | [v0, v1], _ => exact ⟨_, _, rfl⟩
        have y0 := hd 1 (by decide) (by kernel_rfl); replace y0 : x 22 = (.slice ra acc.length rc) := y0; have y1 := hd 4 (by decide) (by kernel_rfl) 25 (by kernel_rfl); replace y1 : x 25 = v1 := y1; have hF2 := hF; obtain ⟨xn, ln, hT1, hBB, hfew, hx, gg, rfl, hgb, hgr⟩ := hF2; obtain ⟨us, hu1, ho, hu3⟩ := hBB.grow.ex; have hlt := hBB.lt; obtain ⟨i0_, hi_, hz0, hz1, hz2⟩ := info_split info_node; refine wp_append_lies _ _ _ 22 rfl (N + 1) 24 i0_ (.agg #[.int .i64 0, .string ⟨#[]⟩, .int .i64 0, .slice none 0 0]) 4 56 Tryz.underlying22 hi_ hz0 hz1 hz2 rfl (by decide) (.slice ra acc.length rc) acc.length (us.flatMap fun u => u.cells.toList) y0 ho ⟨gg, 0, none⟩ 1 1 v0.cells.toList y1 (by rw [Array.length_toList, nd_size hx]) ?_ (by obtain ⟨a, b, c, d, e, e2, p1, p2, p3, p4⟩ := nd_cells hx; rw [e2]; intro q hq; simp at hq; rcases hq with rfl | rfl | rfl | rfl <;> assumption) (by decide) (by unfold maxLen; omega) (by omega) (by omega) u.heap.size rfl ?_
        ·intro j q hj; have e : (⟨gg, 0, none⟩ : Addr).add j = ⟨gg, j, none⟩ := (by unfold Addr.add; split <;> simp_all); rw [e, hgb.cell]; simpa using hj
        ·intro g9 c9 w9 ho9 hg9 ha9 hl9
         exact hK'.out _ _ _ rfl trivial (push_append hF hu1 hu3 ho9 hg9 ha9)
       case sb7 =>
        obtain ⟨v0, v1, v2, rfl⟩ : ∃ v0 v1 v2, vs = [v0, v1, v2] := by match vs, hm 3 (by kernel_rfl) with | [v0, v1, v2], _ => exact ⟨_, _, _, rfl⟩
        have y0 := hd 6 (by decide) (by kernel_rfl); replace y0 : x 27 = .pointer (some ⟨N, 3, none⟩) := y0; have y1 := hd 5 (by decide) (by kernel_rfl) 26 (by kernel_rfl); replace y1 : x 26 = v2 := y1; have hF2 := hF; obtain ⟨xn, ln, hT1, hBB, gg, cc, rfl⟩ := hF2; have hc := hBB.nd.cell 3; have hf := hBB.nd.frozen 3; have hl := hBB.lt; simp at hc
        have HF := Z_ hF; clear hd hm hb hF hBB hT1; go_simp; exact hK'.out _ _ undef (by simp only [y0, y1]; rfl) trivial (push_store HF.out)
      case finb =>
       intro x vs w9 hl hF hk; obtain ⟨v0, v1, v2, v3, rfl⟩ : ∃ v0 v1 v2 v3, vs = [v0, v1, v2, v3] := by match vs, hl with | [v0, v1, v2, v3], _ => exact ⟨_, _, _, _, rfl⟩
       obtain ⟨xn, ln, hT1, hB9⟩ := hF; clear hk hl; replace HT := Z_ (Out.bind_got HT.out hT1.out); replace HB := Z_ hB9; replace HAT := Z_ HB.out.at; clear hT1 hB9; have HH := Z_ (have_any HAT.out.pr sComma); have HLE := Z_ (fun (h : isB ln [sComma] = true) => synm.tail_lt h); generalize isB ln [sComma] = R at *; go_wp2_with fail
       refine HH.out.mono ?_
       rintro e u4 ⟨rfl, hC, hP⟩; cases R with
       | false =>
        replace hP : PrAt W u4 S E ln := by simpa using hP
        have HT0 := HT.out; clear HT; simp only [Bool.false_eq_true, ↓reduceIte] at HT0; have HT := Z_ HT0; clear HT0; replace HB := Z_ (HB.out.call hC hP (Nat.le_refl _)); replace HAT := Z_ HB.out.at; clear hC hP HH HLE; go_wp2_with fail
        go_meet
        exact ⟨acc ++ [xn], v2, ln, HT, HB⟩
       | true =>
        replace hP : PrAt W u4 S E ln.tail := by simpa using hP
        have HT0 := HT.out; clear HT; simp only [↓reduceIte] at HT0; have HT := Z_ HT0; clear HT0; replace HB := Z_ (HB.out.call hC hP (by have := HLE.out rfl; omega)); replace HAT := Z_ HB.out.at; clear hC hP HH HLE; go_wp2_with fail
        go_roundg m
        case rel => exact ⟨ln.tail, acc ++ [xn], v2, by omega, HT, HB⟩
        case measure => omega
 case rest =>
  clear HT HB; obtain ⟨acc, row, l2, HT, HB⟩ := hcut; have HAT := Z_ HB.out.at; generalize wc = u7 at *; have HN := Z_ (need_any (HAT.out.pr.alloc (.cells #[.string sClose] 9)) u7.heap.size 1 sClose ((Blk.made u7 #[.string sClose] 9).cell 0)); have hEx := (Chg.refl (fun _ => False) u7).alloc (.cells #[.string sClose] 9); replace HB := Z_ (HB.out.extend hEx); replace HAT := Z_ HB.out.at; clear hEx; go_wp2_with fail
  refine HN.out.mono ?_
  rintro e u4 hr; obtain ⟨hC, ⟨lb, hp, rfl⟩ | ⟨_, l4, _, hp, rfl, rfl, hP⟩⟩ := hr.cases (pNeed_ne _ _)
  ·have HF := Z_ (Out.bind_bad HT.out hp)
   have HC := Z_ (HAT.out.chg.then hC); clear hr hp hC; go_wp2_with fail
   exact ⟨rfl, Pst.fails HC.out HF.out⟩
  replace HT := Z_ (Out.bind_got HT.out hp); replace HB := Z_ (HB.out.call hC hP (by have := synm.need_lt hp; omega)); replace HAT := Z_ HB.out.at; clear hr hp hC hP HN; obtain ⟨ra, rn, rc, hrow⟩ := HB.out.slice3
  first | subst hrow | clear hrow
  have c0 := HB.out.nd.cell 0; have c1 := HB.out.nd.cell 1; have c2 := HB.out.nd.cell 2; have c3 := HB.out.nd.cell 3; have r0 := HB.out.res.cell; have rf := HB.out.res.frozen; have rl := HB.out.res.lt; unfold zeroNd at r0; simp at c0 c1 c2 c3
  go_wp2_with fail
  refine ends_at rfl rfl rfl ((((HB.out.res.set 0 _).set 1 _).set 2 _).set 3 _) Tryz.underlying24 rfl (by kernel_rfl) ?_
  exact HB.out.ret (by omega) (HT.out.symm) _ _ _ _
end synw
end Go.Proofs.YtpcihajmcejliacGreatDoor
namespace Go.Proofs.YtpcihajmcejliacGreatDoor
open Go.RowKit
namespace synw
def BoundF (W w0 : World) (S E A B N : Nat) (l : List Tk) (x : Nd) (v : Value) (op : Int) (T : Out Nd) : List Value → World → Prop
 | [], u => At W w0 u S E A l ∧ Loc S B N u x v ∧ B ≤ u.heap.size
 | [z], u => ∃ y l', Hid (T = .got y l') ∧ At W w0 u S E A l' ∧ Loc S B N u x v ∧ B ≤ u.heap.size ∧ NdAt (hide (hidB B N) u) y z
 | [_, s], u => ∃ y l', Hid (T = .got y l') ∧ At W w0 u S E A l' ∧ Loc S B N u x v ∧ B ≤ u.heap.size ∧ ∃ g, s = .slice (some ⟨g, 0, none⟩) 2 2 ∧ NdAt (hide (hidB B N) u) (.mk 19 noText op [x, y]) (.agg #[.int .i64 19, .string noText, .int .i64 op, .slice (some ⟨g, 0, none⟩) 2 2])
 | [_, _, n], u => ∃ y l', Hid (T = .got y l') ∧ At W w0 u S E A l' ∧ Loc S B N u x v ∧ B ≤ u.heap.size ∧ ∃ g, n = .agg #[.int .i64 19, .string noText, .int .i64 op, .slice (some ⟨g, 0, none⟩) 2 2] ∧ NdAt (hide (hidB B N) u) (.mk 19 noText op [x, y]) n
 | [_, _, n, _], u => ∃ y l', Hid (T = .got y l') ∧ At W w0 u S E A l' ∧ Loc S B N u (.mk 19 noText op [x, y]) n ∧ B ≤ u.heap.size
 | _, _ => False
theorem BoundF.cells {W w0 u : World} {S E A B N : Nat} {l : List Tk} {x : Nd} {v : Value} {op : Int} {T : Out Nd} {vs : List Value} (h : BoundF W w0 S E A B N l x v op T vs u) (hv : vs.length ≤ 1) : Loc S B N u x v := by
 match vs, hv, h with
 | [], _, h => exact h.2.1
 | [_], _, ⟨_, _, _, _, h, _⟩ => exact h
theorem bound_call {W w0 u u2 : World} {S E A B N : Nat} {l l' : List Tk} {x y : Nd} {v z : Value} {op : Int} {T : Out Nd} (h : BoundF W w0 S E A B N l x v op T [] u) (hC : Chg (fun i => i = S) u u2) (hT : T = .got y l') (hV : VN u.heap.size y z u2) (hP : PrAt W u2 S E l') : BoundF W w0 S E A B N l x v op T [z] u2 := by
 obtain ⟨h1, h2, h3⟩ := h; have h4 := h2.nd.lt; refine ⟨y, l', Z_ hT, h1.call hC hP, h2.call hC, Nat.le_trans h3 hC.size, ndAt_keeps (keeps_hide (Nat.le_refl _) fun i hi hm => ?_) _ _ hV⟩
 simp only [below, hidB, decide_eq_false_iff_not, Bool.or_eq_false_iff] at hm ⊢; exact ⟨⟨by omega, by omega⟩, trivial⟩
theorem bound_slice {W w0 u : World} {S E A B N : Nat} {l : List Tk} {x : Nd} {v z : Value} {op : Int} {T : Out Nd} (h : BoundF W w0 S E A B N l x v op T [z] u) {c : Array Value} (hc : v.cells ++ z.cells = c) : BoundF W w0 S E A B N l x v op T [z, .slice (some ⟨u.heap.size, 0, none⟩) 2 2] (u.alloc (.cells c 24)) := by
 obtain ⟨y, l', hT, h1, h2, h3, h4⟩ := h; have hE := (Chg.refl (fun _ => False) u).alloc (.cells c 24); have h5 := h2.nd.lt; exact ⟨y, l', hT, h1.extend hE, h2.extend hE, Nat.le_trans h3 hE.size, _, rfl, nd_row2 h2.dat h4 (by simp [hidB]; omega) 19 op noText (by decide) hc⟩
theorem bound_node {W w0 u u2 : World} {S E A B N : Nat} {l : List Tk} {x : Nd} {v z : Value} {op : Int} {T : Out Nd} {g : Nat} (h : BoundF W w0 S E A B N l x v op T [z, .slice (some ⟨g, 0, none⟩) 2 2] u) (hE : Ext u u2) : BoundF W w0 S E A B N l x v op T [z, .slice (some ⟨g, 0, none⟩) 2 2, .agg #[.int .i64 19, .string noText, .int .i64 op, .slice (some ⟨g, 0, none⟩) 2 2]] u2 := by
 obtain ⟨y, l', hT, h1, h2, h3, g', e, h4⟩ := h; obtain rfl : g = g' := by simpa using e
 exact ⟨y, l', hT, h1.extend hE, h2.extend hE, Nat.le_trans h3 hE.size, g, rfl, ndAt_keeps (keeps_chg hE fun _ _ h => h.elim) _ _ h4⟩
theorem bound_store {W w0 u : World} {S E A B N : Nat} {l : List Tk} {x : Nd} {v z s q : Value} {op : Int} {T : Out Nd} {a b c d : Value} (h : BoundF W w0 S E A B N l x v op T [z, s, .agg #[a, b, c, d]] u) (hAN : A < N) :
  BoundF W w0 S E A B N l x v op T [z, s, .agg #[a, b, c, d], q] ((((u.setCell ⟨N, 0, none⟩ a).setCell ⟨N, 1, none⟩ b).setCell ⟨N, 2, none⟩ c).setCell ⟨N, 3, none⟩ d) := by
 obtain ⟨y, l', hT, h1, h2, h3, g, e, h4⟩ := h; have hC : Chg (fun i => i = N) u ((((u.setCell ⟨N, 0, none⟩ a).setCell ⟨N, 1, none⟩ b).setCell ⟨N, 2, none⟩ c).setCell ⟨N, 3, none⟩ d) := chg_set (chg_set (chg_set (chg_set (Chg.refl _ _) 0 a) 1 b) 2 c) 3 d; refine ⟨y, l', hT, h1.far hC hAN, ⟨?_, ndAt_keeps (keeps_chg hC fun i _ e => by rw [e]; simp [hidB]) _ _ h4, h2.hSB, h2.hSN⟩, Nat.le_trans h3 hC.size⟩
 have hs := nd_size h2.dat; have h5 := (((h2.nd.set 0 a).set 1 b).set 2 c).set 3 d
 have e : (((v.cells.setIfInBounds 0 a).setIfInBounds 1 b).setIfInBounds 2 c).setIfInBounds 3 d = (Value.agg #[a, b, c, d]).cells := by
  obtain ⟨a', b', c', d', -, e', -⟩ := nd_cells h2.dat; rw [e']; rfl
 rw [e] at h5; exact h5
set_option maxRecDepth 100000 in
set_option maxHeartbeats 4000000 in
theorem bound_any {n : Nat} (ih : ∀ m, m ≤ n → Good m) {W w : World} {S E : Nat} {l : List Tk} {k : Nat} (h : PrAt W w S E l) (hm : MaxVar W) (hk : k ≤ 3) (hne : prs (n + 1) (.bound k) l ≠ .out) :
  Calls Tryz.prog 364 #[.pointer (some ⟨S, 0, none⟩), .int .i64 (k : Nat)] w (Pst (VN w.heap.size) W w S E (prs (n + 1) (.bound k) l)) := by
 obtain ⟨T, hT⟩ : ∃ T, prs (n + 1) (.bound k) l = T := ⟨_, rfl⟩; rw [hT] at hne ⊢; simp only [prs] at hT; have HT := Z_ hT; have HNE := Z_ hne; have HM := Z_ hm; have HAT : Hid (At W w (w.alloc (.cells #[.int .i64 0, .string ⟨#[]⟩, .int .i64 0, .slice none 0 0] 24)) S E w.heap.size l) := Z_ (At.start h); obtain ⟨A, hA⟩ : ∃ A, w.heap.size = A := ⟨_, rfl⟩; rw [hA] at HAT; have hSA : S < A := by have := h.lt; omega
 clear h hm hne hT; go_enter Tryz.func364, Tryz.ntmps364
 go_upto_region 1 with (fail)
 generalize w.alloc (.cells #[.int .i64 0, .string ⟨#[]⟩, .int .i64 0, .slice none 0 0] 24) = u0 at *; by_cases hk2 : 2 < k
 ·have HT0 := HT.out
  clear HT; simp only [hk2, ↓reduceIte] at HT0; have HT := Z_ HT0; clear HT0; obtain rfl : k = 3 := by omega
  have HAT0 := HAT.out.lt; obtain ⟨B, hB⟩ : ∃ B, u0.heap.size = B := ⟨_, rfl⟩; rw [hB] at HAT0; have HN := Z_ (ih n (Nat.le_refl _) (.unary) _ _ HAT.out.pr HM.out rfl trivial (by rw [HT.out]; exact HNE.out)); go_wp2_with fail
  refine HN.out.mono ?_
  rintro e u1 hr; obtain ⟨hC, ⟨lb, hp, rfl⟩ | ⟨x1, l1, v1, hp, rfl, hv, hP⟩⟩ := hr.cases (by rw [HT.out]; exact HNE.out)
  ·have HF := Z_ (HT.out.symm.trans hp)
   have HC := Z_ (HAT.out.chg.then hC); clear hr hp hC; go_wp2_with fail
   exact ⟨rfl, Pst.fails HC.out HF.out⟩
  replace HT := Z_ (HT.out.symm.trans hp); replace HAT := Z_ (HAT.out.call hC hP); obtain ⟨ka1, ta1, ma1, aa1, na1, ca1, rfl⟩ := nd_form hv; have HV1 := Z_ hv; have hsz1 : u0.heap.size ≤ u1.heap.size := hC.size; clear hr hp hC hP hv HN; rw [hB] at HV1; have r0 := HAT.out.res.cell; have rf := HAT.out.res.frozen; have rl := HAT.out.res.lt; unfold zeroNd at r0; go_wp2_with fail
  refine ends_at rfl rfl rfl ((((HAT.out.res.set 0 _).set 1 _).set 2 _).set 3 _) Tryz.underlying24 rfl (by kernel_rfl) ?_
  exact ret_value HAT.out (below B) (HV1.out) (below_yes (by omega)) (fun i hi => below_yes (by omega)) (HT.out)
 ·have HT0 := HT.out
  clear HT; simp only [hk2, ↓reduceIte] at HT0; have HT := Z_ HT0; clear HT0; have hk3 : ¬ ((k : Int) > 2) := by omega
  have hk4 : ¬ (2 < (k : Int)) := by omega
  have hkw : IntKind.i64.wrap ((k : Int) + 1) = ((k + 1 : Nat) : Int) := by rw [wrap_small _ (by omega) (by omega)]; rfl
  have hkw2 : wrap64 ((k : Int) + 1) = ((k + 1 : Nat) : Int) := by unfold wrap64; omega
  have HAT0 := HAT.out.lt; obtain ⟨B, hB⟩ : ∃ B, u0.heap.size = B := ⟨_, rfl⟩; rw [hB] at HAT0; have HN := Z_ (ih n (Nat.le_refl _) (.bound (k + 1)) _ _ HAT.out.pr HM.out rfl (by omega : k + 1 ≤ 3) (Out.bind_ne HT.out HNE.out)); go_wp2_with fail
  refine HN.out.mono ?_
  rintro e u1 hr; obtain ⟨hC, ⟨lb, hp, rfl⟩ | ⟨x1, l1, v1, hp, rfl, hv, hP⟩⟩ := hr.cases (Out.bind_ne HT.out HNE.out)
  ·have HF := Z_ (Out.bind_bad HT.out hp)
   have HC := Z_ (HAT.out.chg.then hC); clear hr hp hC; go_wp2_with fail
   exact ⟨rfl, Pst.fails HC.out HF.out⟩
  replace HT := Z_ (Out.bind_got HT.out hp); replace HAT := Z_ (HAT.out.call hC hP); obtain ⟨ka1, ta1, ma1, aa1, na1, ca1, rfl⟩ := nd_form hv; have HV1 := Z_ hv; have hsz1 : u0.heap.size ≤ u1.heap.size := hC.size; clear hr hp hC hP hv HN; rw [hB] at HV1 hsz1; have HL := Z_ (Loc.start HV1.out (by omega : S < B) hsz1 (c := #[.int .i64 ka1, .string ta1, .int .i64 ma1, .slice aa1 na1 ca1]) rfl); replace HAT := Z_ (HAT.out.alloc (.cells #[.int .i64 ka1, .string ta1, .int .i64 ma1, .slice aa1 na1 ca1] 24)); obtain ⟨N, hN⟩ : ∃ N, u1.heap.size = N := ⟨_, rfl⟩; have hBN : B ≤ N := hN ▸ hsz1
  rw [hN] at HL; go_wp2_with fail
  generalize u1.alloc (.cells #[.int .i64 ka1, .string ta1, .int .i64 ma1, .slice aa1 na1 ca1] 24) = v0 at *; have HLl := HL.out.nd.lt; go_loopg [] n (fun kk wr => ∃ l2 x v, kk ≤ n ∧ B ≤ wr.heap.size ∧ Hid (prs kk (.loop k x) l2 = T) ∧ Hid (At W w wr S E A l2) ∧ Hid (Loc S B N wr x v))
  case atStart => exact ⟨l1, x1, .agg #[.int .i64 ka1, .string ta1, .int .i64 ma1, .slice aa1 na1 ca1], Nat.le_refl _, by omega, HT, HAT, HL⟩
  clear HT HAT HL HV1
  case round =>
   obtain ⟨lr, xd, vd, hkn, hBr, HT, HAT, HL⟩ := hrel; cases gk with
   | zero => exact absurd HT.out.symm HNE.out
   | succ m =>
    have HT0 := HT.out; clear HT; simp only [prs] at HT0; have HT := Z_ HT0; clear HT0; obtain ⟨kx, tx, mx, ax, nx, cx, rfl⟩ := nd_form HL.out.dat; have HH := Z_ (peek_any HAT.out.pr); have hkk := hd_kind E lr; have htt := hd_text E lr; have hpr : ∀ t r, lr = t :: r → hdTk E lr = t := fun t r e => by rw [e]; rfl
    generalize hdTk E lr = tk0 at HH hkk htt hpr; obtain ⟨tk, tt, ta⟩ := tk0; simp only at hkk htt; unfold tkV at HH; rw [← hkk, ← htt] at HT; have HOP := Z_ (op_any tt); generalize opOf tt = oo at *; obtain ⟨op, lv⟩ := oo; simp only at HT HOP; have HK := Z_ hkk; clear hkk htt hpr; go_wp2_with fail
    refine HH.out.mono ?_
    rintro e u5 ⟨rfl, hE⟩; have hP5 := Z_ (Blk.made u5 #[.int .i64 tk, .string tt, .int .i64 ta] 195); have hE5 := hE.alloc (.cells #[.int .i64 tk, .string tt, .int .i64 ta] 195); replace HAT := Z_ (HAT.out.extend hE5); replace HL := Z_ (HL.out.extend hE5); have hB5 := Nat.le_trans hBr hE5.size; obtain ⟨Pk, hPk⟩ : ∃ Pk, u5.heap.size = Pk := ⟨_, rfl⟩; rw [hPk] at hP5; clear hE hE5 HH; go_upto_region 5 with (fail)
    generalize u5.alloc (.cells #[.int .i64 tk, .string tt, .int .i64 ta] 195) = u6 at *; have p0 := hP5.out.cell 0; have p1 := hP5.out.cell 1; simp at p0 p1
    go_wp2_with fail
    refine (HOP.out _).mono ?_
    rintro e w' ⟨rfl, rfl⟩; clear HOP p1; by_cases hlv : lv = (k : Int)
    ·by_cases htk : tk = 3
     ·subst htk
      have hlv2 : (lv != (k : Int)) = false := by simp [hlv]
      have HT0 := HT.out; clear HT; simp only [hlv, and_self, ↓reduceIte] at HT0; have HT := Z_ HT0; clear HT0; obtain ⟨t0, r0, rfl⟩ : ∃ t r, lr = t :: r := by cases lr with | nil => exact absurd HK.out (by decide) | cons t r => exact ⟨t, r, rfl⟩
      obtain ⟨kc, hkc, hkc2, hP2⟩ := pr_step HAT.out.pr; obtain ⟨a', n', c', k', hBk, -, -⟩ := pr_blk HAT.out.pr; have hf := hBk.frozen 1; have hSl := hBk.lt; have hkcw : IntKind.i64.wrap ((kc : Int) + 1) = (kc : Int) + 1 := wrap_small _ (by omega) (by omega); replace HL := Z_ (HL.out.call (chg_set (Chg.refl _ _) 1 (.int .i64 ((kc : Int) + 1)))); replace HAT := Z_ (HAT.out.call (chg_set (Chg.refl _ _) 1 (.int .i64 ((kc : Int) + 1))) hP2); clear hP2 hBk hP5; go_upto_region 9 with (fail)
      clear hkc hf hSl p0; have hB6 : B ≤ (u6.setCell ⟨S, 1, none⟩ (.int .i64 ((kc : Int) + 1))).heap.size := by simpa using hB5
      generalize u6.setCell ⟨S, 1, none⟩ (.int .i64 ((kc : Int) + 1)) = u8 at *; have hAN : A < N := by omega
      refine wp_region_weave [5, 6, 7, 8] (fun i v _ => v = ([.int .i64 op, .agg #[.int .i64 kx, .string tx, .int .i64 mx, .slice ax nx cx], .pointer (some ⟨S, 0, none⟩), .int .i64 (k : Nat), .int .i64 ((k + 1 : Nat) : Int), undef, undef, undef, undef] : List Value).getD i undef) (BoundF W w S E A B N r0 xd (.agg #[.int .i64 kx, .string tx, .int .i64 mx, .slice ax nx cx]) op (prs m (.bound (k + 1)) r0)) (fun _ _ => True) (frame := ?fra) (fun x => ?hfa) mixed (by kernel_rfl) (by kernel_rfl) (fun _ _ _ _ h _ => h) ?h0 ?st ?fin
      case hfa =>
       simp only [chain.frameOf, chain.fill, chain.setOpt, chain.dstOf, List.size_toArray, List.length_cons, List.length_nil, List.getElem?_toArray, List.getElem?_cons_succ, List.getElem?_cons_zero, List.setIfInBounds_toArray, List.set_cons_succ, List.set_cons_zero]; exact rfl
      case h0 => exact ⟨HAT.out.extend (Chg.refl _ _).drew, HL.out.extend (Chg.refl _ _).drew, hB6⟩
      case st =>
       refine AllFrom.cons (fun x vs u hF hm hb hd K' hK' => ?s0) (AllFrom.cons (fun x vs u hF hm hb hd K' hK' => ?s1) (AllFrom.cons (fun x vs u hF hm hb hd K' hK' => ?s2) (AllFrom.cons (fun x vs u hF hm hb hd K' hK' => ?s3) (AllFrom.cons (fun x vs u hF hm hb hd K' hK' => ?s4) (AllFrom.cons (fun x vs u hF hm hb hd K' hK' => ?s5) (AllFrom.cons (fun x vs u hF hm hb hd K' hK' => ?s6) (AllFrom.cons (fun x vs u hF hm hb hd K' hK' => ?s7) (AllFrom.cons (fun x vs u hF hm hb hd K' hK' => ?s8) (AllFrom.nil)))))))))
       case s0 =>
        have HF := Z_ hF; clear hd hm hb hF; go_simp; exact hK'.out _ _ _ rfl trivial ⟨rfl, HF.out⟩
       case s1 =>
        have hLc := hF.cells (by have := hb 1 _ (by decide) rfl (by kernel_rfl); omega); have hc := hLc.nd.cell; simp only [Value.cells] at hc; clear hLc; have HF := Z_ hF; clear hd hm hb hF; go_simp; exact hK'.out _ _ _ rfl trivial ⟨rfl, HF.out⟩
       case s2 =>
        have HF := Z_ hF; clear hd hm hb hF; go_simp; exact hK'.out _ _ _ rfl trivial ⟨rfl, HF.out⟩
       case s3 =>
        have HF := Z_ hF; clear hd hm hb hF; go_simp; exact hK'.out _ _ _ rfl trivial ⟨rfl, HF.out⟩
       case s4 =>
        have y0 := hd 3 (by decide) (by kernel_rfl); replace y0 : x 44 = .int .i64 (k : Nat) := y0; have HF := Z_ hF; clear hd hm hb hF; go_simp; exact hK'.out _ _ _ (by simp only [y0]; rfl) trivial ⟨by first | rfl | simp [hkw] | simp [hkw2], HF.out⟩
       case s5 =>
        have y0 := hd 2 (by decide) (by kernel_rfl); replace y0 : x 43 = .pointer (some ⟨S, 0, none⟩) := y0; have y1 := hd 4 (by decide) (by kernel_rfl); replace y1 : x 45 = .int .i64 ((k + 1 : Nat) : Int) := y1; obtain rfl := List.eq_nil_of_length_eq_zero (hm 0 (by kernel_rfl)); have HF := Z_ hF; clear hd hm hb hF; have HCA := Z_ (ih m (by omega) (.bound (k + 1)) _ _ HF.out.1.pr HM.out rfl (by omega : k + 1 ≤ 3) (Out.bind_ne HT.out HNE.out)); go_simp; refine HCA.out.mono ?_
        rintro e u2 hr; obtain ⟨hC, ⟨lb, hp, rfl⟩ | ⟨xn, ln, z, hp, rfl, hv, hP⟩⟩ := hr.cases (Out.bind_ne HT.out HNE.out)
        ·have HE := Z_ (Out.bind_bad HT.out hp)
         have HC := Z_ (HF.out.1.chg.then hC); clear hr hp hC hK' HCA; go_wp2_with fail
         exact ⟨rfl, Pst.fails HC.out HE.out⟩
        ·exact hK'.out _ _ _ (by simp only [y0, y1]; rfl) trivial (bound_call HF.out hC hp hv hP)
       case s6 =>
        obtain ⟨v0, rfl⟩ : ∃ v0, vs = [v0] := by match vs, hm 1 (by kernel_rfl) with | [v0], _ => exact ⟨_, rfl⟩
        have y0 := hd 1 (by decide) (by kernel_rfl); replace y0 : x 42 = .agg #[.int .i64 kx, .string tx, .int .i64 mx, .slice ax nx cx] := y0; have y1 := hd 5 (by decide) (by kernel_rfl) 46 (by kernel_rfl); replace y1 : x 46 = v0 := y1; have hcl : ∃ a b c d, v0 = .agg #[a, b, c, d] := by obtain ⟨yn, ln, _, _, _, _, hx⟩ := hF; obtain ⟨a, b, c, d, h, _⟩ := nd_cells hx; exact ⟨a, b, c, d, h⟩
        obtain ⟨a0, b0, c0, d0, rfl⟩ := hcl; have HF := Z_ hF; clear hd hm hb hF; go_simp; exact hK'.out _ _ _ (by simp only [y0, y1]; rfl) trivial (bound_slice HF.out rfl)
       case s7 =>
        obtain ⟨v0, v1, rfl⟩ : ∃ v0 v1, vs = [v0, v1] := by match vs, hm 2 (by kernel_rfl) with | [v0, v1], _ => exact ⟨_, _, rfl⟩
        have y0 := hd 0 (by decide) (by kernel_rfl); replace y0 : x 41 = .int .i64 op := y0; have y1 := hd 6 (by decide) (by kernel_rfl) 47 (by kernel_rfl); replace y1 : x 47 = v1 := y1; have hcl : ∃ g, v1 = .slice (some ⟨g, 0, none⟩) 2 2 := by obtain ⟨yn, ln, _, _, _, _, g, e, _⟩ := hF; exact ⟨g, e⟩
        obtain ⟨g, rfl⟩ := hcl; have HF := Z_ hF; clear hd hm hb hF; go_simp; refine (node_any _ _ _ _ _ _ _).mono ?_
        rintro e u2 ⟨rfl, hE⟩; exact hK'.out _ _ _ (by simp only [y0, y1]; rfl) trivial (bound_node HF.out hE)
       case s8 =>
        obtain ⟨v0, v1, v2, rfl⟩ : ∃ v0 v1 v2, vs = [v0, v1, v2] := by match vs, hm 3 (by kernel_rfl) with | [v0, v1, v2], _ => exact ⟨_, _, _, rfl⟩
        have y1 := hd 7 (by decide) (by kernel_rfl) 48 (by kernel_rfl); replace y1 : x 48 = v2 := y1; have hcl : ∃ g, v2 = .agg #[.int .i64 19, .string noText, .int .i64 op, .slice (some ⟨g, 0, none⟩) 2 2] := by obtain ⟨yn, ln, _, _, _, _, g, e, _⟩ := hF; exact ⟨g, e⟩
        obtain ⟨g, rfl⟩ := hcl; have hLc : Loc S B N u xd (.agg #[.int .i64 kx, .string tx, .int .i64 mx, .slice ax nx cx]) := by obtain ⟨yn, ln, _, _, h, _⟩ := hF; exact h
        have hc := hLc.nd.cell; have hcf := hLc.nd.frozen; have hcl := hLc.nd.lt; simp only [Value.cells] at hc; clear hLc; have HF := Z_ hF; clear hd hm hb hF; go_simp; exact hK'.out _ _ undef (by simp only [y1]; rfl) trivial (bound_store HF.out hAN)
      case fin =>
       intro x vs w9 hl hF hkn2; obtain ⟨v0, v1, v2, v3, rfl⟩ : ∃ v0 v1 v2 v3, vs = [v0, v1, v2, v3] := by match vs, hl with | [v0, v1, v2, v3], _ => exact ⟨_, _, _, _, rfl⟩
       obtain ⟨yn, ln, hT1, hA9, hL9, hB9⟩ := hF; clear hkn2 hl; replace HT := Z_ (Out.bind_got HT.out hT1.out); replace HAT := Z_ hA9; replace HL := Z_ hL9; clear hT1 hA9 hL9; by_cases hk0 : k = 0
       ·subst hk0
        have HT0 := HT.out; clear HT; simp only [↓reduceIte] at HT0; have HT := Z_ HT0; clear HT0; obtain ⟨ky, ty, my, ay, ny, cy, rfl⟩ := nd_form HL.out.dat; have hc := HL.out.nd.cell; simp only [Value.cells] at hc; have r0 := HAT.out.res.cell; have rf := HAT.out.res.frozen; have rl := HAT.out.res.lt; unfold zeroNd at r0; go_wp2_with fail
        refine ends_at rfl rfl rfl ((((HAT.out.res.set 0 _).set 1 _).set 2 _).set 3 _) Tryz.underlying24 rfl (by kernel_rfl) ?_
        exact ret_value HAT.out (hidB B N) (HL.out.dat) (hidB_yes (by omega)) (fun i hi => hidB_yes (by omega)) (HT.out.symm)
       ·have hk5 : ((k : Int) == 0) = false := by simp; omega
        have HT0 := HT.out; clear HT; simp only [hk0, ↓reduceIte] at HT0; have HT := Z_ HT0; clear HT0; go_wp2_with fail
        go_roundg m
        case rel => exact ⟨ln, _, v2, by omega, hB9, HT, HAT, HL⟩
        case measure => omega
     ·have hlv2 : (lv != (k : Int)) = false := by simp [hlv]
      have htk2 : (tk != 3) = true := by simpa using htk
      have hno : ¬ (tk = 3 ∧ lv = (k : Int)) := fun h => htk h.1
      have HT0 := HT.out; clear HT; simp only [hno, ↓reduceIte] at HT0; have HT := Z_ HT0; clear HT0; have hc := HL.out.nd.cell; simp only [Value.cells] at hc; have r0 := HAT.out.res.cell; have rf := HAT.out.res.frozen; have rl := HAT.out.res.lt; unfold zeroNd at r0; go_wp2_with fail
      refine ends_at rfl rfl rfl ((((HAT.out.res.set 0 _).set 1 _).set 2 _).set 3 _) Tryz.underlying24 rfl (by kernel_rfl) ?_
      exact ret_value HAT.out (hidB B N) (HL.out.dat) (hidB_yes (by omega)) (fun i hi => hidB_yes (by omega)) (HT.out.symm)
    ·have hlv2 : (lv != (k : Int)) = true := by simpa using hlv
     have hno : ¬ (tk = 3 ∧ lv = (k : Int)) := fun h => hlv h.2
     have HT0 := HT.out; clear HT; simp only [hno, ↓reduceIte] at HT0; have HT := Z_ HT0; clear HT0; have hc := HL.out.nd.cell; simp only [Value.cells] at hc; have r0 := HAT.out.res.cell; have rf := HAT.out.res.frozen; have rl := HAT.out.res.lt; unfold zeroNd at r0; go_wp2_with fail
     refine ends_at rfl rfl rfl ((((HAT.out.res.set 0 _).set 1 _).set 2 _).set 3 _) Tryz.underlying24 rfl (by kernel_rfl) ?_
     exact ret_value HAT.out (hidB B N) (HL.out.dat) (hidB_yes (by omega)) (fun i hi => hidB_yes (by omega)) (HT.out.symm)
end synw
end Go.Proofs.YtpcihajmcejliacGreatDoor
