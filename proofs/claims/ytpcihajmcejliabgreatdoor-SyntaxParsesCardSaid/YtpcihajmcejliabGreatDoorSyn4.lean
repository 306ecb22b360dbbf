/- The walk of the program's parser: calls. -/
import Derived.Test.YtpcihajmcejliabGreatDoorSyn3
import Derived.Deep.CutBlock
import Derived.Deep.DeepCutAuto
namespace Go.Proofs.YtpcihajmcejliabGreatDoor
open Go.RowKit
namespace synw
set_option maxRecDepth 100000 in
set_option maxHeartbeats 4000000 in
theorem call_any {n : Nat} (ih : ∀ m, m ≤ n → Good m) {W w : World} {S E : Nat} {l : List Tk} {s : ByteArray} (h : PrAt W w S E l) (hm : MaxVar W) (hs : s.size ≤ 7000) (hne : prs (n + 1) (.call s) l ≠ .out) :
    Calls Tryz.prog 324 #[.pointer (some ⟨S, 0, none⟩), .string s] w (Pst (VN w.heap.size) W w S E (prs (n + 1) (.call s) l)) := by
  obtain ⟨T, hT⟩ : ∃ T, prs (n + 1) (.call s) l = T := ⟨_, rfl⟩
  rw [hT] at hne ⊢
  simp only [prs] at hT
  have HT := Lib.hid hT
  have HNE := Lib.hid hne
  have HM := Lib.hid hm
  have HAT : Hid (At W w (w.alloc (.cells #[.int .i64 0, .string ⟨#[]⟩, .int .i64 0, .slice none 0 0] 66)) S E w.heap.size l) := Lib.hid (At.start h)
  obtain ⟨A, hA⟩ : ∃ A, w.heap.size = A := ⟨_, rfl⟩
  rw [hA] at HAT
  have hSA : S < A := by have := h.lt; omega
  clear h hm hne hT
  go_enter Tryz.func324, Tryz.ntmps324
  go_upto_region 1 with (fail)
  generalize w.alloc (.cells #[.int .i64 0, .string ⟨#[]⟩, .int .i64 0, .slice none 0 0] 66) = u0 at *
  have HN := Lib.hid (need_any (HAT.out.pr.alloc (.cells #[.string sOpen] 9)) u0.heap.size 1 sOpen ((Blk.made u0 #[.string sOpen] 9).cell 0))
  have hEx := (Chg.refl (fun _ => False) u0).alloc (.cells #[.string sOpen] 9)
  replace HAT := Lib.hid (HAT.out.extend hEx)
  clear hEx
  go_wp2_with fail
  refine HN.out.mono ?_
  rintro e u1 hr
  obtain ⟨hC, ⟨lb, hp, rfl⟩ | ⟨_, l1, _, hp, rfl, rfl, hP⟩⟩ := hr.cases (pNeed_ne _ _)
  · have HF := Lib.hid (Out.bind_bad HT.out hp)
    have HC := Lib.hid (HAT.out.chg.then hC)
    clear hr hp hC
    go_wp2_with fail
    exact ⟨rfl, Pst.fails HC.out HF.out⟩
  replace HT := Lib.hid (Out.bind_got HT.out hp)
  replace HAT := Lib.hid (HAT.out.call hC hP)
  clear hr hp hC hP HN
  go_wp2_with fail
  refine (node_any _ _ _ _ _ _ _).mono ?_
  rintro e u2 ⟨rfl, hE⟩
  replace HAT := Lib.hid (HAT.out.extend hE)
  have HB := Lib.hid ((HAT.out.alloc (.cells #[.int .i64 18, .string s, .int .i64 0, .slice none 0 0] 66)).bld (Blk.made u2 _ _) HAT.out.lt)
  obtain ⟨N, hN⟩ : ∃ N, u2.heap.size = N := ⟨_, rfl⟩
  rw [hN] at HB
  clear hE HAT
  go_upto_block 0 with (fail)
  generalize u2.alloc (.cells #[.int .i64 18, .string s, .int .i64 0, .slice none 0 0] 66) = v0 at *
  go_cut [] (fun w' => ∃ (acc : List Nd) (row : Value) (l2 : List Tk), Hid ((pNeed sClose l2).bind (fun _ l => .got (.mk 18 s 0 acc) l) = T) ∧ Hid (Bld W w w' S E A N l2 18 s 0 row row acc))
  case first =>
    go_wp2_with fail
    go_loopg [] n (fun k wr => ∃ l2 acc row, k ≤ n ∧ Hid (prs k (.args s acc) l2 = T) ∧ Hid (Bld W w wr S E A N l2 18 s 0 row row acc))
    case atStart => exact ⟨l1, [], .slice none 0 0, Nat.le_refl _, HT, HB⟩
    clear HT HB
    case round =>
      obtain ⟨lr, acc, row, hkn, HT, HB⟩ := hrel
      cases gk with
      | zero => exact absurd HT.out.symm HNE.out
      | succ m =>
        have HT0 := HT.out
        clear HT
        simp only [prs] at HT0
        have HT := Lib.hid HT0
        clear HT0
        have HAT := Lib.hid HB.out.at
        obtain ⟨ra, rc, rfl⟩ := HB.out.slice
        have HH := Lib.hid (is_any (HAT.out.pr.alloc (.cells #[.string sClose] 9)) wr.heap.size [sClose] 1 1 rfl (by decide) (fun j hj => by
          obtain rfl : j = 0 := by simpa using hj
          exact (Blk.made wr #[.string sClose] 9).cell 0) (by simp))
        have hEx := (Chg.refl (fun _ => False) wr).alloc (.cells #[.string sClose] 9)
        replace HB := Lib.hid (HB.out.extend hEx)
        replace HAT := Lib.hid HB.out.at
        clear hEx
        generalize isB lr [sClose] = R at *
        go_wp2_with fail
        refine HH.out.mono ?_
        rintro e u3 ⟨rfl, hE⟩
        replace HB := Lib.hid (HB.out.extend hE)
        replace HAT := Lib.hid HB.out.at
        clear hE HH
        cases R with
        | false =>
          have HT0 := HT.out
          clear HT
          simp only [Bool.false_eq_true, false_and, ↓reduceIte] at HT0
          have HT := Lib.hid HT0
          clear HT0
          go_upto_region 4 with (fail)
          refine wp_region_weave [3, 4, 5, 7] (fun i v _ => v = ([.pointer (some ⟨N, 3, none⟩), (.slice ra acc.length rc), .pointer (some ⟨S, 0, none⟩), undef, undef, undef, .pointer (some ⟨N, 3, none⟩), undef] : List Value).getD i undef) (PushF W w S E A N lr 18 s 0 (.slice ra acc.length rc) acc (prs m .expr lr)) (fun _ _ => True) (frame := ?fraa) (fun x => ?hfaa) mixed (by kernel_rfl) (by kernel_rfl) (fun _ _ _ _ h _ => h) ?h0a ?sta ?fina
          case hfaa =>
            simp only [chain.frameOf, chain.fill, chain.setOpt, chain.dstOf, List.size_toArray, List.length_cons, List.length_nil, List.getElem?_toArray, List.getElem?_cons_succ, List.getElem?_cons_zero, List.setIfInBounds_toArray, List.set_cons_succ, List.set_cons_zero]
            exact rfl
          case h0a => exact HB.out.extend (Chg.refl _ _).drew
          case sta =>
            refine AllFrom.cons (fun x vs u hF hm hb hd K' hK' => ?sa0) (AllFrom.cons (fun x vs u hF hm hb hd K' hK' => ?sa1) (AllFrom.cons (fun x vs u hF hm hb hd K' hK' => ?sa2) (AllFrom.cons (fun x vs u hF hm hb hd K' hK' => ?sa3) (AllFrom.cons (fun x vs u hF hm hb hd K' hK' => ?sa4) (AllFrom.cons (fun x vs u hF hm hb hd K' hK' => ?sa5) (AllFrom.cons (fun x vs u hF hm hb hd K' hK' => ?sa6) (AllFrom.cons (fun x vs u hF hm hb hd K' hK' => ?sa7) (AllFrom.nil))))))))
            case sa0 =>
              have HF := Lib.hid hF
              clear hd hm hb hF
              go_simp
              exact hK'.out _ _ _ rfl trivial ⟨rfl, HF.out⟩
            case sa1 =>
              have y0 := hd 0 (by decide) (by kernel_rfl)
              replace y0 : x 21 = .pointer (some ⟨N, 3, none⟩) := y0
              have hc := hF.cell (by have := hb 2 _ (by decide) rfl (by kernel_rfl); omega)
              have HF := Lib.hid hF
              clear hd hm hb hF
              go_simp
              exact hK'.out _ _ _ (by simp only [y0]; rfl) trivial ⟨rfl, HF.out⟩
            case sa2 =>
              have HF := Lib.hid hF
              clear hd hm hb hF
              go_simp
              exact hK'.out _ _ _ rfl trivial ⟨rfl, HF.out⟩
            case sa6 =>
              have HF := Lib.hid hF
              clear hd hm hb hF
              go_simp
              exact hK'.out _ _ _ rfl trivial ⟨rfl, HF.out⟩
            case sa3 =>
              have y0 := hd 2 (by decide) (by kernel_rfl)
              replace y0 : x 23 = .pointer (some ⟨S, 0, none⟩) := y0
              obtain rfl := List.eq_nil_of_length_eq_zero (hm 0 (by kernel_rfl))
              have HF := Lib.hid (show Bld _ _ _ _ _ _ _ _ _ _ _ _ _ _ from hF)
              clear hd hm hb hF
              have HCA := Lib.hid (ih m (by omega) .expr _ _ HF.out.pr HM.out rfl trivial (Out.bind_ne HT.out HNE.out))
              go_simp
              refine HCA.out.mono ?_
              rintro e u2 hr
              obtain ⟨hC, ⟨lb, hp, rfl⟩ | ⟨xn, ln, v, hp, rfl, hv, hP⟩⟩ := hr.cases (Out.bind_ne HT.out HNE.out)
              · have HE := Lib.hid (Out.bind_bad HT.out hp)
                have HC := Lib.hid (HF.out.chg.then hC)
                clear hr hp hC hK' HCA
                go_wp2_with fail
                exact ⟨rfl, Pst.fails HC.out HE.out⟩
              · exact hK'.out _ _ _ (by simp only [y0]; rfl) trivial (push_call HF.out hC hp hv hP (synm.prs_lt _ _ _ _ _ hp))
            case sa4 =>
              obtain ⟨v0, rfl⟩ : ∃ v0, vs = [v0] := by match vs, hm 1 (by kernel_rfl) with | [v0], _ => exact ⟨_, rfl⟩
              have y0 := hd 3 (by decide) (by kernel_rfl) 24 (by kernel_rfl)
              replace y0 : x 24 = v0 := y0
              have hcl : ∃ a b c d, v0 = .agg #[a, b, c, d] := by obtain ⟨xn, ln, _, _, _, hx⟩ := hF; obtain ⟨a, b, c, d, h, _⟩ := nd_cells hx; exact ⟨a, b, c, d, h⟩
              obtain ⟨a0, b0, c0, d0, rfl⟩ := hcl
              have HF := Lib.hid hF
              clear hd hm hb hF
              go_simp
              exact hK'.out _ _ _ (by simp only [y0]; rfl) trivial (push_slice HF.out rfl)
            case sa5 =>
              obtain ⟨v0, v1, rfl⟩ : ∃ v0 v1, vs = [v0, v1] := by match vs, hm 2 (by kernel_rfl) with | [v0, v1], _ => exact ⟨_, _, rfl⟩
              have y0 := hd 1 (by decide) (by kernel_rfl)
              replace y0 : x 22 = (.slice ra acc.length rc) := y0
              have y1 := hd 4 (by decide) (by kernel_rfl) 25 (by kernel_rfl)
              replace y1 : x 25 = v1 := y1
              have hF2 := hF
              obtain ⟨xn, ln, hT1, hBB, hfew, hx, gg, rfl, hgb, hgr⟩ := hF2
              obtain ⟨us, hu1, ho, hu3⟩ := hBB.grow.ex
              have hlt := hBB.lt
              obtain ⟨i0_, hi_, hz0, hz1, hz2⟩ := info_split info_node
              refine wp_append_lies _ _ _ 35 rfl (N + 1) 66 i0_ (.agg #[.int .i64 0, .string ⟨#[]⟩, .int .i64 0, .slice none 0 0]) 4 56 Tryz.underlying35 hi_ hz0 hz1 hz2 rfl (by decide) (.slice ra acc.length rc) acc.length (us.flatMap fun u => u.cells.toList) y0 ho ⟨gg, 0, none⟩ 1 1 v0.cells.toList y1 (by rw [Array.length_toList, nd_size hx]) ?_ (by obtain ⟨a, b, c, d, e, e2, p1, p2, p3, p4⟩ := nd_cells hx; rw [e2]; intro q hq; simp at hq; rcases hq with rfl | rfl | rfl | rfl <;> assumption) (by decide) (by unfold maxLen; omega) (by omega) (by omega) u.heap.size rfl ?_
              · intro j q hj; have e : (⟨gg, 0, none⟩ : Addr).add j = ⟨gg, j, none⟩ := (by unfold Addr.add; split <;> simp_all); rw [e, hgb.cell]; simpa using hj
              · intro g9 c9 w9 ho9 hg9 ha9 hl9
                exact hK'.out _ _ _ rfl trivial (push_append hF hu1 hu3 ho9 hg9 ha9)
            case sa7 =>
              obtain ⟨v0, v1, v2, rfl⟩ : ∃ v0 v1 v2, vs = [v0, v1, v2] := by match vs, hm 3 (by kernel_rfl) with | [v0, v1, v2], _ => exact ⟨_, _, _, rfl⟩
              have y0 := hd 6 (by decide) (by kernel_rfl)
              replace y0 : x 27 = .pointer (some ⟨N, 3, none⟩) := y0
              have y1 := hd 5 (by decide) (by kernel_rfl) 26 (by kernel_rfl)
              replace y1 : x 26 = v2 := y1
              have hF2 := hF
              obtain ⟨xn, ln, hT1, hBB, gg, cc, rfl⟩ := hF2
              have hc := hBB.nd.cell 3
              have hf := hBB.nd.frozen 3
              have hl := hBB.lt
              simp at hc
              have HF := Lib.hid hF
              clear hd hm hb hF hBB hT1
              go_simp
              exact hK'.out _ _ undef (by simp only [y0, y1]; rfl) trivial (push_store HF.out)
          case fina =>
            intro x vs w9 hl hF hk
            obtain ⟨v0, v1, v2, v3, rfl⟩ : ∃ v0 v1 v2 v3, vs = [v0, v1, v2, v3] := by match vs, hl with | [v0, v1, v2, v3], _ => exact ⟨_, _, _, _, rfl⟩
            obtain ⟨xn, ln, hT1, hB9⟩ := hF
            clear hk hl
            replace HT := Lib.hid (Out.bind_got HT.out hT1.out)
            replace HB := Lib.hid hB9
            replace HAT := Lib.hid HB.out.at
            clear hT1 hB9
            have HH := Lib.hid (have_any HAT.out.pr sComma)
            have HLE := Lib.hid (fun (h : isB ln [sComma] = true) => synm.tail_lt h)
            generalize isB ln [sComma] = R at *
            go_wp2_with fail
            refine HH.out.mono ?_
            rintro e u4 ⟨rfl, hC, hP⟩
            cases R with
            | false =>
              replace hP : PrAt W u4 S E ln := by simpa using hP
              have HT0 := HT.out
              clear HT
              simp only [Bool.false_eq_true, ↓reduceIte] at HT0
              have HT := Lib.hid HT0
              clear HT0
              replace HB := Lib.hid (HB.out.call hC hP (Nat.le_refl _))
              replace HAT := Lib.hid HB.out.at
              clear hC hP HH HLE
              go_wp2_with fail
              go_meet
              exact ⟨acc ++ [xn], v2, ln, HT, HB⟩
            | true =>
              replace hP : PrAt W u4 S E ln.tail := by simpa using hP
              have HT0 := HT.out
              clear HT
              simp only [↓reduceIte] at HT0
              have HT := Lib.hid HT0
              clear HT0
              replace HB := Lib.hid (HB.out.call hC hP (by have := HLE.out rfl; omega))
              replace HAT := Lib.hid HB.out.at
              clear hC hP HH HLE
              go_wp2_with fail
              go_roundg m
              case rel => exact ⟨ln.tail, acc ++ [xn], v2, by omega, HT, HB⟩
              case measure => omega
        | true =>
          have c3 := HB.out.nd.cell 3
          simp at c3
          by_cases hl0 : acc.length = 0
          · have HT0 := HT.out
            clear HT
            simp only [hl0, and_self, ↓reduceIte] at HT0
            have HT := Lib.hid HT0
            clear HT0
            have HB2 : Hid (∃ row, Bld W w u3 S E A N lr 18 s 0 row row acc) := Lib.hid ⟨_, HB.out⟩
            clear HB HAT
            rw [hl0] at c3
            go_wp2_with fail
            go_meet
            obtain ⟨row, HB⟩ := HB2.out
            exact ⟨acc, row, lr, HT, Lib.hid HB⟩
          · have HT0 := HT.out
            clear HT
            simp only [hl0, and_false, ↓reduceIte] at HT0
            have HT := Lib.hid HT0
            clear HT0
            have hl1 : 0 < acc.length := by omega
            go_upto_region 4 with (fail)
            refine wp_region_weave [3, 4, 5, 7] (fun i v _ => v = ([.pointer (some ⟨N, 3, none⟩), (.slice ra acc.length rc), .pointer (some ⟨S, 0, none⟩), undef, undef, undef, .pointer (some ⟨N, 3, none⟩), undef] : List Value).getD i undef) (PushF W w S E A N lr 18 s 0 (.slice ra acc.length rc) acc (prs m .expr lr)) (fun _ _ => True) (frame := ?frab) (fun x => ?hfab) mixed (by kernel_rfl) (by kernel_rfl) (fun _ _ _ _ h _ => h) ?h0b ?stb ?finb
            case hfab =>
              simp only [chain.frameOf, chain.fill, chain.setOpt, chain.dstOf, List.size_toArray, List.length_cons, List.length_nil, List.getElem?_toArray, List.getElem?_cons_succ, List.getElem?_cons_zero, List.setIfInBounds_toArray, List.set_cons_succ, List.set_cons_zero]
              exact rfl
            case h0b => exact HB.out.extend (Chg.refl _ _).drew
            case stb =>
              refine AllFrom.cons (fun x vs u hF hm hb hd K' hK' => ?sb0) (AllFrom.cons (fun x vs u hF hm hb hd K' hK' => ?sb1) (AllFrom.cons (fun x vs u hF hm hb hd K' hK' => ?sb2) (AllFrom.cons (fun x vs u hF hm hb hd K' hK' => ?sb3) (AllFrom.cons (fun x vs u hF hm hb hd K' hK' => ?sb4) (AllFrom.cons (fun x vs u hF hm hb hd K' hK' => ?sb5) (AllFrom.cons (fun x vs u hF hm hb hd K' hK' => ?sb6) (AllFrom.cons (fun x vs u hF hm hb hd K' hK' => ?sb7) (AllFrom.nil))))))))
              case sb0 =>
                have HF := Lib.hid hF
                clear hd hm hb hF
                go_simp
                exact hK'.out _ _ _ rfl trivial ⟨rfl, HF.out⟩
              case sb1 =>
                have y0 := hd 0 (by decide) (by kernel_rfl)
                replace y0 : x 21 = .pointer (some ⟨N, 3, none⟩) := y0
                have hc := hF.cell (by have := hb 2 _ (by decide) rfl (by kernel_rfl); omega)
                have HF := Lib.hid hF
                clear hd hm hb hF
                go_simp
                exact hK'.out _ _ _ (by simp only [y0]; rfl) trivial ⟨rfl, HF.out⟩
              case sb2 =>
                have HF := Lib.hid hF
                clear hd hm hb hF
                go_simp
                exact hK'.out _ _ _ rfl trivial ⟨rfl, HF.out⟩
              case sb6 =>
                have HF := Lib.hid hF
                clear hd hm hb hF
                go_simp
                exact hK'.out _ _ _ rfl trivial ⟨rfl, HF.out⟩
              case sb3 =>
                have y0 := hd 2 (by decide) (by kernel_rfl)
                replace y0 : x 23 = .pointer (some ⟨S, 0, none⟩) := y0
                obtain rfl := List.eq_nil_of_length_eq_zero (hm 0 (by kernel_rfl))
                have HF := Lib.hid (show Bld _ _ _ _ _ _ _ _ _ _ _ _ _ _ from hF)
                clear hd hm hb hF
                have HCA := Lib.hid (ih m (by omega) .expr _ _ HF.out.pr HM.out rfl trivial (Out.bind_ne HT.out HNE.out))
                go_simp
                refine HCA.out.mono ?_
                rintro e u2 hr
                obtain ⟨hC, ⟨lb, hp, rfl⟩ | ⟨xn, ln, v, hp, rfl, hv, hP⟩⟩ := hr.cases (Out.bind_ne HT.out HNE.out)
                · have HE := Lib.hid (Out.bind_bad HT.out hp)
                  have HC := Lib.hid (HF.out.chg.then hC)
                  clear hr hp hC hK' HCA
                  go_wp2_with fail
                  exact ⟨rfl, Pst.fails HC.out HE.out⟩
                · exact hK'.out _ _ _ (by simp only [y0]; rfl) trivial (push_call HF.out hC hp hv hP (synm.prs_lt _ _ _ _ _ hp))
              case sb4 =>
                obtain ⟨v0, rfl⟩ : ∃ v0, vs = [v0] := by match vs, hm 1 (by kernel_rfl) with | [v0], _ => exact ⟨_, rfl⟩
                have y0 := hd 3 (by decide) (by kernel_rfl) 24 (by kernel_rfl)
                replace y0 : x 24 = v0 := y0
                have hcl : ∃ a b c d, v0 = .agg #[a, b, c, d] := by obtain ⟨xn, ln, _, _, _, hx⟩ := hF; obtain ⟨a, b, c, d, h, _⟩ := nd_cells hx; exact ⟨a, b, c, d, h⟩
                obtain ⟨a0, b0, c0, d0, rfl⟩ := hcl
                have HF := Lib.hid hF
                clear hd hm hb hF
                go_simp
                exact hK'.out _ _ _ (by simp only [y0]; rfl) trivial (push_slice HF.out rfl)
              case sb5 =>
                obtain ⟨v0, v1, rfl⟩ : ∃ v0 v1, vs = [v0, v1] := by match vs, hm 2 (by kernel_rfl) with | [v0, v1], _ => exact ⟨_, _, rfl⟩
                have y0 := hd 1 (by decide) (by kernel_rfl)
                replace y0 : x 22 = (.slice ra acc.length rc) := y0
                have y1 := hd 4 (by decide) (by kernel_rfl) 25 (by kernel_rfl)
                replace y1 : x 25 = v1 := y1
                have hF2 := hF
                obtain ⟨xn, ln, hT1, hBB, hfew, hx, gg, rfl, hgb, hgr⟩ := hF2
                obtain ⟨us, hu1, ho, hu3⟩ := hBB.grow.ex
                have hlt := hBB.lt
                obtain ⟨i0_, hi_, hz0, hz1, hz2⟩ := info_split info_node
                refine wp_append_lies _ _ _ 35 rfl (N + 1) 66 i0_ (.agg #[.int .i64 0, .string ⟨#[]⟩, .int .i64 0, .slice none 0 0]) 4 56 Tryz.underlying35 hi_ hz0 hz1 hz2 rfl (by decide) (.slice ra acc.length rc) acc.length (us.flatMap fun u => u.cells.toList) y0 ho ⟨gg, 0, none⟩ 1 1 v0.cells.toList y1 (by rw [Array.length_toList, nd_size hx]) ?_ (by obtain ⟨a, b, c, d, e, e2, p1, p2, p3, p4⟩ := nd_cells hx; rw [e2]; intro q hq; simp at hq; rcases hq with rfl | rfl | rfl | rfl <;> assumption) (by decide) (by unfold maxLen; omega) (by omega) (by omega) u.heap.size rfl ?_
                · intro j q hj; have e : (⟨gg, 0, none⟩ : Addr).add j = ⟨gg, j, none⟩ := (by unfold Addr.add; split <;> simp_all); rw [e, hgb.cell]; simpa using hj
                · intro g9 c9 w9 ho9 hg9 ha9 hl9
                  exact hK'.out _ _ _ rfl trivial (push_append hF hu1 hu3 ho9 hg9 ha9)
              case sb7 =>
                obtain ⟨v0, v1, v2, rfl⟩ : ∃ v0 v1 v2, vs = [v0, v1, v2] := by match vs, hm 3 (by kernel_rfl) with | [v0, v1, v2], _ => exact ⟨_, _, _, rfl⟩
                have y0 := hd 6 (by decide) (by kernel_rfl)
                replace y0 : x 27 = .pointer (some ⟨N, 3, none⟩) := y0
                have y1 := hd 5 (by decide) (by kernel_rfl) 26 (by kernel_rfl)
                replace y1 : x 26 = v2 := y1
                have hF2 := hF
                obtain ⟨xn, ln, hT1, hBB, gg, cc, rfl⟩ := hF2
                have hc := hBB.nd.cell 3
                have hf := hBB.nd.frozen 3
                have hl := hBB.lt
                simp at hc
                have HF := Lib.hid hF
                clear hd hm hb hF hBB hT1
                go_simp
                exact hK'.out _ _ undef (by simp only [y0, y1]; rfl) trivial (push_store HF.out)
            case finb =>
              intro x vs w9 hl hF hk
              obtain ⟨v0, v1, v2, v3, rfl⟩ : ∃ v0 v1 v2 v3, vs = [v0, v1, v2, v3] := by match vs, hl with | [v0, v1, v2, v3], _ => exact ⟨_, _, _, _, rfl⟩
              obtain ⟨xn, ln, hT1, hB9⟩ := hF
              clear hk hl
              replace HT := Lib.hid (Out.bind_got HT.out hT1.out)
              replace HB := Lib.hid hB9
              replace HAT := Lib.hid HB.out.at
              clear hT1 hB9
              have HH := Lib.hid (have_any HAT.out.pr sComma)
              have HLE := Lib.hid (fun (h : isB ln [sComma] = true) => synm.tail_lt h)
              generalize isB ln [sComma] = R at *
              go_wp2_with fail
              refine HH.out.mono ?_
              rintro e u4 ⟨rfl, hC, hP⟩
              cases R with
              | false =>
                replace hP : PrAt W u4 S E ln := by simpa using hP
                have HT0 := HT.out
                clear HT
                simp only [Bool.false_eq_true, ↓reduceIte] at HT0
                have HT := Lib.hid HT0
                clear HT0
                replace HB := Lib.hid (HB.out.call hC hP (Nat.le_refl _))
                replace HAT := Lib.hid HB.out.at
                clear hC hP HH HLE
                go_wp2_with fail
                go_meet
                exact ⟨acc ++ [xn], v2, ln, HT, HB⟩
              | true =>
                replace hP : PrAt W u4 S E ln.tail := by simpa using hP
                have HT0 := HT.out
                clear HT
                simp only [↓reduceIte] at HT0
                have HT := Lib.hid HT0
                clear HT0
                replace HB := Lib.hid (HB.out.call hC hP (by have := HLE.out rfl; omega))
                replace HAT := Lib.hid HB.out.at
                clear hC hP HH HLE
                go_wp2_with fail
                go_roundg m
                case rel => exact ⟨ln.tail, acc ++ [xn], v2, by omega, HT, HB⟩
                case measure => omega
  case rest =>
    clear HT HB
    obtain ⟨acc, row, l2, HT, HB⟩ := hcut
    have HAT := Lib.hid HB.out.at
    generalize wc = u7 at *
    have HN := Lib.hid (need_any (HAT.out.pr.alloc (.cells #[.string sClose] 9)) u7.heap.size 1 sClose ((Blk.made u7 #[.string sClose] 9).cell 0))
    have hEx := (Chg.refl (fun _ => False) u7).alloc (.cells #[.string sClose] 9)
    replace HB := Lib.hid (HB.out.extend hEx)
    replace HAT := Lib.hid HB.out.at
    clear hEx
    go_wp2_with fail
    refine HN.out.mono ?_
    rintro e u4 hr
    obtain ⟨hC, ⟨lb, hp, rfl⟩ | ⟨_, l4, _, hp, rfl, rfl, hP⟩⟩ := hr.cases (pNeed_ne _ _)
    · have HF := Lib.hid (Out.bind_bad HT.out hp)
      have HC := Lib.hid (HAT.out.chg.then hC)
      clear hr hp hC
      go_wp2_with fail
      exact ⟨rfl, Pst.fails HC.out HF.out⟩
    replace HT := Lib.hid (Out.bind_got HT.out hp)
    replace HB := Lib.hid (HB.out.call hC hP (by have := synm.need_lt hp; omega))
    replace HAT := Lib.hid HB.out.at
    clear hr hp hC hP HN
    obtain ⟨ra, rn, rc, hrow⟩ := HB.out.slice3
    first | subst hrow | clear hrow
    have c0 := HB.out.nd.cell 0
    have c1 := HB.out.nd.cell 1
    have c2 := HB.out.nd.cell 2
    have c3 := HB.out.nd.cell 3
    have r0 := HB.out.res.cell
    have rf := HB.out.res.frozen
    have rl := HB.out.res.lt
    unfold zeroNd at r0
    simp at c0 c1 c2 c3
    go_wp2_with fail
    refine ends_at rfl rfl rfl ((((HB.out.res.set 0 _).set 1 _).set 2 _).set 3 _) Tryz.underlying66 rfl (by kernel_rfl) ?_
    exact HB.out.ret (by omega) (HT.out.symm) _ _ _ _
end synw
end Go.Proofs.YtpcihajmcejliabGreatDoor
