/- The walk of the program's parser: a block. -/
import Derived.Test.YtpcihajmcejliabGreatDoorSynB
import Derived.Test.YtpcihajmcejliabGreatDoorSynMC
import Derived.Deep.LoopGhost
namespace Go.Proofs.YtpcihajmcejliabGreatDoor
open Go.RowKit
namespace synw
set_option maxRecDepth 100000 in
set_option maxHeartbeats 4000000 in
theorem block_any {n : Nat} (ih : ∀ m, m ≤ n → Good m) {W w : World} {S E : Nat} {l : List Tk} (h : PrAt W w S E l) (hm : MaxVar W) (hne : prs (n + 1) .block l ≠ .out) :
    Calls Tryz.prog 255 #[.pointer (some ⟨S, 0, none⟩)] w (Pst (VN w.heap.size) W w S E (prs (n + 1) .block l)) := by
  obtain ⟨T, hT⟩ : ∃ T, prs (n + 1) .block l = T := ⟨_, rfl⟩
  rw [hT] at hne ⊢
  simp only [prs] at hT
  have HT := Lib.hid hT
  have HNE := Lib.hid hne
  have HM := Lib.hid hm
  have hSl := h.lt
  have h1 := h.alloc (.cells zeroNd 66)
  have h2 := h1.alloc (.cells #[.string sCurl] 9)
  have HN := Lib.hid (need_any h2 (w.heap.size + 1) 1 sCurl ((Blk.made2 w (.cells zeroNd 66) #[.string sCurl] 9).cell 0))
  have HC0 : Hid (Chg (fun i => i = S) w ((w.alloc (.cells zeroNd 66)).alloc (.cells #[.string sCurl] 9))) := Lib.hid (((Chg.refl _ _).alloc _).alloc _)
  have HA0 := Lib.hid ((Blk.made w zeroNd 66).alloc (.cells #[.string sCurl] 9))
  obtain ⟨A, hA⟩ : ∃ A, w.heap.size = A := ⟨_, rfl⟩
  rw [hA] at HN HA0
  clear h h1 h2 hm hne hT
  unfold zeroNd at HN HC0 HA0
  go_enter Tryz.func255, Tryz.ntmps255
  go_wp2_with fail
  refine HN.out.mono ?_
  rintro e w1 hr
  obtain ⟨hC1, ⟨l1, hp, rfl⟩ | ⟨x1, l1, v1, hp, rfl, rfl, hP1⟩⟩ := hr.cases (pNeed_ne _ _)
  · have HF := Lib.hid (Out.bind_bad HT.out hp)
    have HC1 := Lib.hid (HC0.out.then hC1)
    clear hr hp hC1
    go_wp2_with fail
    exact ⟨rfl, Pst.fails HC1.out HF.out⟩
  · have HT1 := Lib.hid (Out.bind_got HT.out hp)
    have HC1 := Lib.hid (HC0.out.then hC1)
    have HA1 := Lib.hid (HA0.out.chg hC1 (by omega))
    have HP1 := Lib.hid hP1
    clear hr hp hC1 hP1 HN HC0 HA0 HT
    go_wp2_with fail
    refine (node_any _ _ _ _ _ _ _).mono ?_
    rintro e w2 ⟨rfl, hE2⟩
    have hP2 := (HP1.out.extend hE2).alloc (.cells #[.int .i64 6, .string ⟨#[]⟩, .int .i64 0, .slice none 0 0] 66)
    have hAw := (HA1.out.ext hE2).lt
    have hB2 := Bld.start (kind := 6) (text := ⟨#[]⟩) (num := 0) hP2 ((HC1.out.ext hE2).alloc _) ((HA1.out.ext hE2).alloc _) (Blk.made w2 _ _) hSl (by omega) hAw (pr_len hP2)
    have HB2 := Lib.hid hB2
    clear hP2 hE2 hB2 HA1 HP1 HC1
    obtain ⟨N, hN⟩ : ∃ N, w2.heap.size = N := ⟨_, rfl⟩
    rw [hN] at HB2
    go_wp2_with fail
    generalize w2.alloc (.cells #[.int .i64 6, .string ⟨#[]⟩, .int .i64 0, .slice none 0 0] 66) = w3 at *
    go_loopg [] n (fun k wr => ∃ l acc row, k ≤ n ∧ Hid (prs k (.stats acc) l = T) ∧ Hid (Bld W w wr S E A N l 6 ⟨#[]⟩ 0 row row acc))
    case atStart => exact ⟨l1, [], .slice none 0 0, Nat.le_refl _, HT1, HB2⟩
    case round =>
      obtain ⟨lr, acc, row, hkn, hTr, HB⟩ := hrel
      cases gk with
      | zero => exact absurd hTr.out.symm HNE.out
      | succ m =>
        have hTr2 := hTr.out
        simp only [prs] at hTr2
        have HTR := Lib.hid hTr2
        have HH := Lib.hid (have_any HB.out.pr sLruc)
        have HLE := Lib.hid (fun (h : isB lr [sLruc] = true) => synm.tail_lt h)
        generalize isB lr [sLruc] = R at *
        clear hTr hTr2
        go_wp2_with fail
        refine HH.out.mono ?_
        rintro e w4 ⟨rfl, hC4, hP4⟩
        cases R with
        | true =>
          have HB4 := Lib.hid (HB.out.call hC4 (by simpa using hP4 : PrAt W w4 S E lr.tail) (by have := HLE.out rfl; omega))
          have HT4 := Lib.hid (show T = .got (.mk 6 ⟨#[]⟩ 0 acc) lr.tail by have := HTR.out; rw [if_pos rfl] at this; exact this.symm)
          clear hC4 hP4 HB
          obtain ⟨ra, rc, rfl⟩ := HB4.out.slice
          have c0 := HB4.out.nd.cell 0
          have c1 := HB4.out.nd.cell 1
          have c2 := HB4.out.nd.cell 2
          have c3 := HB4.out.nd.cell 3
          have r0 := HB4.out.res.cell
          have rf := HB4.out.res.frozen
          have rl := HB4.out.res.lt
          unfold zeroNd at r0
          simp at c0 c1 c2 c3
          go_wp2_with fail
          refine ends_at rfl rfl rfl ((((HB4.out.res.set 0 _).set 1 _).set 2 _).set 3 _) Tryz.underlying66 rfl (by kernel_rfl) ?_
          exact HB4.out.ret (by decide) HT4.out _ _ _ _
        | false =>
          have HB := Lib.hid (HB.out.call hC4 (by simpa using hP4 : PrAt W w4 S E lr) (Nat.le_refl _))
          have HT4 := Lib.hid (show (prs m .stat lr).bind (fun x l => prs m (.stats (acc ++ [x])) l) = T by have := HTR.out; simpa using this)
          clear hC4 hP4 HTR HLE HH
          go_upto_region 4 with (fail)
          refine wp_region_weave [3, 4, 5, 7] (fun i v _ => v = ([.pointer (some ⟨N, 3, none⟩), row, .pointer (some ⟨S, 0, none⟩), undef, undef, undef, .pointer (some ⟨N, 3, none⟩), undef] : List Value).getD i undef) (PushF W w S E A N lr 6 ⟨#[]⟩ 0 row acc (prs m .stat lr)) (fun _ _ => True) (frame := ?fraa) (fun x => ?hfaa) mixed (by kernel_rfl) (by kernel_rfl) (fun _ _ _ _ h _ => h) ?h0a ?sta ?fina
          case hfaa =>
            simp only [chain.frameOf, chain.fill, chain.setOpt, chain.dstOf, List.size_toArray, List.length_cons, List.length_nil, List.getElem?_toArray, List.getElem?_cons_succ, List.getElem?_cons_zero, List.setIfInBounds_toArray, List.set_cons_succ, List.set_cons_zero]
            exact rfl
          case h0a => exact HB.out.extend (Chg.refl _ _).drew
          case sta =>
            refine AllFrom.cons (fun x vs u hF hm hb hd K' hK' => ?sa0) (AllFrom.cons (fun x vs u hF hm hb hd K' hK' => ?sa1) (AllFrom.cons (fun x vs u hF hm hb hd K' hK' => ?sa2) (AllFrom.cons (fun x vs u hF hm hb hd K' hK' => ?sa3) (AllFrom.cons (fun x vs u hF hm hb hd K' hK' => ?sa4) (AllFrom.cons (fun x vs u hF hm hb hd K' hK' => ?sa5) (AllFrom.cons (fun x vs u hF hm hb hd K' hK' => ?sa6) (AllFrom.cons (fun x vs u hF hm hb hd K' hK' => ?sa7) (AllFrom.nil))))))))
            case sa0 =>
              have HF := Lib.hid hF
              clear hd hm hb hF
              go_simp
              exact hK'.out _ _ _ rfl trivial ⟨rfl, HF.out⟩
            case sa1 =>
              have y0 := hd 0 (by decide) (by kernel_rfl)
              replace y0 : x 11 = .pointer (some ⟨N, 3, none⟩) := y0
              have hc := hF.cell (by have := hb 2 _ (by decide) rfl (by kernel_rfl); omega)
              have HF := Lib.hid hF
              clear hd hm hb hF
              go_simp
              exact hK'.out _ _ _ (by simp only [y0]; rfl) trivial ⟨rfl, HF.out⟩
            case sa2 =>
              have HF := Lib.hid hF
              clear hd hm hb hF
              go_simp
              exact hK'.out _ _ _ rfl trivial ⟨rfl, HF.out⟩
            case sa6 =>
              have HF := Lib.hid hF
              clear hd hm hb hF
              go_simp
              exact hK'.out _ _ _ rfl trivial ⟨rfl, HF.out⟩
            case sa3 =>
              have y0 := hd 2 (by decide) (by kernel_rfl)
              replace y0 : x 13 = .pointer (some ⟨S, 0, none⟩) := y0
              obtain rfl := List.eq_nil_of_length_eq_zero (hm 0 (by kernel_rfl))
              have HF := Lib.hid (show Bld _ _ _ _ _ _ _ _ _ _ _ _ _ _ from hF)
              clear hd hm hb hF
              have HCA := Lib.hid (ih m (by omega) .stat _ _ HF.out.pr HM.out rfl trivial (Out.bind_ne HT4.out HNE.out))
              go_simp
              refine HCA.out.mono ?_
              rintro e u2 hr
              obtain ⟨hC, ⟨lb, hp, rfl⟩ | ⟨xn, ln, v, hp, rfl, hv, hP⟩⟩ := hr.cases (Out.bind_ne HT4.out HNE.out)
              · have HE := Lib.hid (Out.bind_bad HT4.out hp)
                have HC := Lib.hid (HF.out.chg.then hC)
                clear hr hp hC hK' HCA
                go_wp2_with fail
                exact ⟨rfl, Pst.fails HC.out HE.out⟩
              · exact hK'.out _ _ _ (by simp only [y0]; rfl) trivial (push_call HF.out hC hp hv hP (synm.prs_lt _ _ _ _ _ hp))
            case sa4 =>
              obtain ⟨v0, rfl⟩ : ∃ v0, vs = [v0] := by match vs, hm 1 (by kernel_rfl) with | [v0], _ => exact ⟨_, rfl⟩
              have y0 := hd 3 (by decide) (by kernel_rfl) 14 (by kernel_rfl)
              replace y0 : x 14 = v0 := y0
              have hcl : ∃ a b c d, v0 = .agg #[a, b, c, d] := by obtain ⟨xn, ln, _, _, _, hx⟩ := hF; obtain ⟨a, b, c, d, h, _⟩ := nd_cells hx; exact ⟨a, b, c, d, h⟩
              obtain ⟨a0, b0, c0, d0, rfl⟩ := hcl
              have HF := Lib.hid hF
              clear hd hm hb hF
              go_simp
              exact hK'.out _ _ _ (by simp only [y0]; rfl) trivial (push_slice HF.out rfl)
            case sa5 =>
              obtain ⟨v0, v1, rfl⟩ : ∃ v0 v1, vs = [v0, v1] := by match vs, hm 2 (by kernel_rfl) with | [v0, v1], _ => exact ⟨_, _, rfl⟩
              have y0 := hd 1 (by decide) (by kernel_rfl)
              replace y0 : x 12 = row := y0
              have y1 := hd 4 (by decide) (by kernel_rfl) 15 (by kernel_rfl)
              replace y1 : x 15 = v1 := y1
              have hF2 := hF
              obtain ⟨xn, ln, hT1, hBB, hfew, hx, gg, rfl, hgb, hgr⟩ := hF2
              obtain ⟨us, hu1, ho, hu3⟩ := hBB.grow.ex
              have hlt := hBB.lt
              obtain ⟨i0_, hi_, hz0, hz1, hz2⟩ := info_split info_node
              refine wp_append_lies _ _ _ 35 rfl (N + 1) 66 i0_ (.agg #[.int .i64 0, .string ⟨#[]⟩, .int .i64 0, .slice none 0 0]) 4 56 Tryz.underlying35 hi_ hz0 hz1 hz2 rfl (by decide) row acc.length (us.flatMap fun u => u.cells.toList) y0 ho ⟨gg, 0, none⟩ 1 1 v0.cells.toList y1 (by rw [Array.length_toList, nd_size hx]) ?_ (by obtain ⟨a, b, c, d, e, e2, p1, p2, p3, p4⟩ := nd_cells hx; rw [e2]; intro q hq; simp at hq; rcases hq with rfl | rfl | rfl | rfl <;> assumption) (by decide) (by unfold maxLen; omega) (by omega) (by omega) u.heap.size rfl ?_
              · intro j q hj; have e : (⟨gg, 0, none⟩ : Addr).add j = ⟨gg, j, none⟩ := (by unfold Addr.add; split <;> simp_all); rw [e, hgb.cell]; simpa using hj
              · intro g9 c9 w9 ho9 hg9 ha9 hl9
                exact hK'.out _ _ _ rfl trivial (push_append hF hu1 hu3 ho9 hg9 ha9)
            case sa7 =>
              obtain ⟨v0, v1, v2, rfl⟩ : ∃ v0 v1 v2, vs = [v0, v1, v2] := by match vs, hm 3 (by kernel_rfl) with | [v0, v1, v2], _ => exact ⟨_, _, _, rfl⟩
              have y0 := hd 6 (by decide) (by kernel_rfl)
              replace y0 : x 17 = .pointer (some ⟨N, 3, none⟩) := y0
              have y1 := hd 5 (by decide) (by kernel_rfl) 16 (by kernel_rfl)
              replace y1 : x 16 = v2 := y1
              have hF2 := hF
              obtain ⟨xn, ln, hT1, hBB, gg, cc, rfl⟩ := hF2
              have hc := hBB.nd.cell 3
              have hf := hBB.nd.frozen 3
              have hl := hBB.lt
              simp at hc
              have HF := Lib.hid hF
              clear hd hm hb hF hBB hT1
              go_simp
              exact hK'.out _ _ undef (by simp only [y0, y1]; rfl) trivial (push_store HF.out)
          case fina =>
            intro x vs w9 hl hF hk
            obtain ⟨v0, v1, v2, v3, rfl⟩ : ∃ v0 v1 v2 v3, vs = [v0, v1, v2, v3] := by match vs, hl with | [v0, v1, v2, v3], _ => exact ⟨_, _, _, _, rfl⟩
            obtain ⟨xn, ln, hT1, hB9⟩ := hF
            clear hk hl
            have HT9 := Lib.hid (Out.bind_got HT4.out hT1.out)
            have HB9 := Lib.hid hB9
            clear hT1 hB9
            go_wp2_with fail
            go_roundg m
            case rel => exact ⟨ln, acc ++ [xn], v2, by omega, HT9, HB9⟩
            case measure => omega
end synw
end Go.Proofs.YtpcihajmcejliabGreatDoor
